/- The walks over Under of a disk and over Fates. -/
import Derived.Test.YthnommoljikaiaaDsk15
set_option linter.unusedSimpArgs false
set_option linter.unusedVariables false
namespace Go.Proofs.Ythnommoljikaiaa
open Go.RowKit

theorem intInfo : (Try.prog.info? 3).map (fun i => (i.zero, i.size, i.bytes)) = some (some (.int .i64 0), 1, 8) := by kernel_rfl
theorem fateInfo : (Try.prog.info? 32).map (fun i => (i.zero, i.size, i.bytes)) = some (some (.int .i64 0), 1, 8) := by kernel_rfl
theorem ownsRow_rdI {w : World} {base : Nat} {e : TypeId} {v : Value} {n : Nat} {fs : List Int} (h : w.ownsRow base e 1 v n (fs.map (Value.int .i64))) : ∃ A c, v = .slice A n c ∧ RdI w A n fs ∧ FreshV ⟨Array.replicate base (.cells #[] 0), w.tape, w.drawn, w.os, w.output⟩ v := by
  obtain ⟨h1, ⟨rfl, rfl⟩ | ⟨g, cap, cur, rfl, hg, hh, hn, _, hs, htk⟩⟩ := h
  · obtain rfl : fs = [] := List.eq_nil_of_length_eq_zero (by simpa using h1)
    exact ⟨none, 0, rfl, ⟨rfl, fun h => absurd h (by decide)⟩, fun k hk => by cases hk⟩
  · refine ⟨some ⟨g, 0, none⟩, cap, rfl, ⟨by simpa using h1, fun hn0 => ⟨g, 0, rfl, blk_lt hh, fun j hj => ?_⟩⟩, fun k hk => by cases hk; simpa using hg⟩
    have hl : fs.length = n := by simpa using h1
    refine blk_cell hh ?_
    rw [Nat.mul_one] at htk
    have e : (cur.toList.take n)[j]? = (fs.map (Value.int .i64))[j]? := by rw [htk]
    rw [List.getElem?_take_of_lt hj, Array.getElem?_toList] at e
    rw [Nat.zero_add, e]
    simp [List.getElem?_eq_getElem (show j < fs.length by omega), List.getD_eq_getElem?_getD]
theorem blk_one {w : World} {x : Int} {T : TypeId} : ∀ j u, [Value.int .i64 x][j]? = some u → (w.alloc (.cells #[.int .i64 x] T)).cell? ((⟨w.heap.size, 0, none⟩ : Addr).add j) = some u := by
  intro j u hj
  rw [addr_add, Nat.zero_add]
  exact blk_cell (blk_new w _) (by rw [← hj]; simp)
theorem one_ofInt {x : Int} : ∀ u ∈ [Value.int .i64 x], u.oneCell' = true := by
  intro u hu
  simp only [List.mem_singleton] at hu
  rw [hu]
  rfl

set_option maxRecDepth 100000 in
set_option maxHeartbeats 1000000 in
theorem fates_any (w : World) (A : Option Addr) (n cap : Nat) (fs : List Int) (h : RdI w A n fs) (hn : n ≤ 499) :
    Calls Try.prog 29 #[.slice A n cap] w fun e w' => ∃ v, e = .returned v ∧ w'.ownsRow w.heap.size 32 1 v n (fs.map (Value.int .i64)) ∧ Below w.heap.size w w' := by
  have HF := bx h
  clear h
  obtain ⟨i0, hi, hz0, hz1, hz2⟩ := info_parts fateInfo
  have HI0 := bx hi; have HI1 := bx hz0; have HI2 := bx hz1; have HI3 := bx hz2
  clear hi hz0 hz1 hz2
  go_enter Try.func29, Try.ntmps29
  go_wp2_with fail
  go_loopw [3, 4] (fun v q wr => ∃ k : Nat, k ≤ n ∧ q = .int .i64 k ∧ wr.ownsRow w.heap.size 32 1 v k ((fs.take k).map (Value.int .i64)) ∧ Below w.heap.size w wr) (fun _ q _ => n - (intOf q).toNat)
  case atStart => exact ⟨0, Nat.zero_le _, rfl, World.ownsRow_nil _ _ _ _, Below.refl _ _⟩
  case round =>
    rename_i v _
    obtain ⟨k, hk, rfl, ho, hb⟩ := hrel
    have HO := bx ho; have BR := bx hb
    clear ho hb
    have h5 : (k : Int) < 500 := by omega
    by_cases hlt : k < n
    · have hlt' : (k : Int) < n := by omega
      obtain ⟨fb, fo, rfl, hfl, hfc⟩ := HF.out.2 (by omega)
      have hfk := (BR.out.cell (p := ⟨fb, fo + k, none⟩) hfl).trans (hfc k hlt)
      have hkl : k < fs.length := by rw [HF.out.1]; exact hlt
      have HTK : Bx ((fs.take (k + 1)).map (Value.int .i64) = (fs.take k).map (Value.int .i64) ++ [.int .i64 (fs.getD k 0)]) := ⟨by
        rw [List.take_succ_eq_append_getElem hkl, List.map_append, List.getD_eq_getElem?_getD, List.getElem?_eq_getElem hkl]
        rfl⟩
      generalize fs.getD k 0 = x at *
      have HB2 : Bx (k + 1 ≤ maxLen ∧ (k + 1) * 8 ≤ 140737488355328) := ⟨by simp only [maxLen]; omega, by omega⟩
      have BA := bx (BR.out.alloc BR.out.size (.cells #[.int .i64 x] 32))
      clear hfc
      go_wp2_with (first
        | ((with_reducible refine at_call 21 ?_); go_must (refine wpList_append_own _ rfl (.tmp 15) (.tmp 20) 33 rfl w.heap.size 32 i0 _ 1 8 Try.underlying33 HI0.out HI1.out HI2.out HI3.out rfl (by decide) _ k _ rfl (HO.out.alloc _) ⟨wr.heap.size, 0, none⟩ 1 1 [.int .i64 x] rfl rfl blk_one one_ofInt HB2.out.1 HB2.out.2 BA.out.size ?_; intro v' w' q1 q2 q3; have K1 := bx q1; have K2 := bx q2; clear q1 q2 q3)))
      exact ⟨⟨k + 1, by omega, by go_num, by rw [HTK.out]; exact K1.out, BA.out.grown K2.out BA.out.size (fun k hk => (World.ownsRow.lt HO.out k hk).1)⟩, by simp [intOf]; omega⟩
    · obtain rfl : k = n := by omega
      have hlt' : ¬ (k : Int) < k := by omega
      have HTK : Bx (fs.take k = fs) := ⟨List.take_of_length_le (by rw [HF.out.1]; exact Nat.le_refl _)⟩
      go_wp2_with fail
      go_ret
      exact ⟨_, rfl, by have := HO.out; rw [HTK.out] at this; exact this, BR.out⟩

/-- The numbers of the sectors that are written. -/
def undAts (u : List (Int × List Int)) : List Int := u.map (·.1)
set_option maxRecDepth 100000 in
set_option maxHeartbeats 2000000 in
theorem under_any (w : World) (S : Nat → Prop) (D : Nat) (st : DSt) (h : DskIs w S D st) (hu : st.und.length ≤ 100000) :
    Calls Try.prog 32 #[.pointer (some ⟨D, 0, none⟩)] w fun e w' => ∃ v, e = .returned v ∧ w'.ownsRow w.heap.size 3 1 v st.und.length ((undAts st.und).map (Value.int .i64)) ∧ Below w.heap.size w w' := by
  obtain ⟨mb, uv, hd⟩ := h
  have HN := bx (none_any w D st.n (.map (some mb)) uv st.left st.down hd.blk hd.n1)
  have HD := bx hd
  obtain ⟨uA, uc, hue⟩ := ownsRow_len hd.und
  obtain ⟨L, hL⟩ : ∃ L, L = st.und.length := ⟨_, rfl⟩
  have HE : Bx (uv = .slice uA L uc) := ⟨by rw [hue, hL]⟩
  have hL2 : L ≤ 100000 := by rw [hL]; exact hu
  have c2 : w.cell? ⟨D, 2, none⟩ = some (.slice uA L uc) := by rw [← HE.out]; exact blk_cell hd.blk rfl
  have HL := bx hL
  clear hd hue hL hu
  obtain ⟨i0, hi, hz0, hz1, hz2⟩ := info_parts intInfo
  have HI0 := bx hi; have HI1 := bx hz0; have HI2 := bx hz1; have HI3 := bx hz2
  clear hi hz0 hz1 hz2
  go_enter Try.func32, Try.ntmps32
  go_wp2_with fail
  refine HN.out.mono ?_
  rintro e w' ⟨rfl, rfl⟩
  go_wp2_with fail
  go_loopw [3, 13] (fun v q wr => ∃ k : Nat, k ≤ L ∧ q = .int .i64 k ∧ wr.ownsRow w.heap.size 3 1 v k ((undAts (st.und.take k)).map (Value.int .i64)) ∧ Below w.heap.size w wr) (fun _ q _ => L - (intOf q).toNat)
  case atStart => exact ⟨0, Nat.zero_le _, rfl, World.ownsRow_nil _ _ _ _, Below.refl _ _⟩
  case round =>
    obtain ⟨k, hk, rfl, hp, hb⟩ := hrel
    have PR := bx hp; have BR := bx hb
    clear hp hb c2
    by_cases hlt : k < L
    · have hkl : k < st.und.length := by rw [← HL.out]; exact hlt
      have hex := und_extract (u := st.und) (w := wr) (uv := uv) (HD.out.und |> fun h => ownsRow_same h (fun j hj => BR.out.block j (ownsRow_lt h j hj))) HD.out.unds (by omega)
      have hok := HD.out.unds st.und[k] (List.getElem_mem hkl)
      have htk : (undAts (st.und.take (k + 1))).map (Value.int .i64) = (undAts (st.und.take k)).map (Value.int .i64) ++ [.int .i64 st.und[k].1] := by
        rw [List.take_succ_eq_append_getElem hkl, undAts, undAts, List.map_append, List.map_append]
        rfl
      obtain ⟨g, cap, cur, hue, hh, hcap, hx⟩ := hex
      obtain ⟨hx1, hx2⟩ := hx k hkl
      rw [HE.out] at hue
      simp only [Value.slice.injEq] at hue
      obtain ⟨rfl, hx0, rfl⟩ := hue
      clear hx0
      generalize st.und[k] = x at htk hok hx2
      obtain ⟨xa, xb⟩ := x
      dsimp only at htk hok hx2
      have HX1 := bx hx1; have HX2 := bx hx2; have HOX := bx hok; have H2 := bx hh; have HTK := bx htk
      have hix : (k : Int) < L := by omega
      have HWI : Bx ((Try.prog.info? 142).map (·.size) = some (wCells xa xb).size) := ⟨by rw [wCells_size hok]; exact wrInfo⟩
      have HWF : Bx (0 + (wCells xa xb).size ≤ (wCells 0 zeros256).size) := ⟨by rw [wCells_size hok, wCells_size zeros_ok]; decide⟩
      have HWP : Bx (putRow (wCells 0 zeros256) 0 (wCells xa xb).toList = wCells xa xb) := ⟨putRow_all _ _ (by rw [Array.length_toList, wCells_size hok, wCells_size zeros_ok])⟩
      have HB2 : Bx (k + 1 ≤ maxLen ∧ (k + 1) * 8 ≤ 140737488355328) := ⟨by simp only [maxLen]; omega, by omega⟩
      clear hh hx hx1 hx2 hok htk
      go_wp2_with (first
        | ((with_reducible refine at_load 16 ?_); go_must (refine wpList_load_agg rfl 142 (.tmp 15) rfl g (k * 257) rfl 142 cur 257 _ H2.out Try.underlying142 rfl wrInfo HX1.out (wCells xa xb) HX2.out ?_))
        | ((with_reducible refine at_store (.tmp 5) (.tmp 16) ?_); go_must (refine wpList_store_agg rfl 142 (.tmp 5) (.tmp 16) rfl wr.heap.size 0 (wCells xa xb) rfl rfl 142 (wCells 0 zeros256) (blk_wr wr) HWI.out HWF.out (wCells_one _ _) (wCells xa xb) HWP.out ?_; intro w5 hu5; have b5 := ((Below.refl wr.heap.size wr).alloc (Nat.le_refl _) (.cells Try.zeroCells142 142)).trans (hu5.below (Nat.le_refl _)); have c5 : w5.cell? ⟨wr.heap.size, 0, none⟩ = some (.int .i64 xa) := blk_cell hu5.same rfl; have B5 := bx (BR.out.trans (b5.mono BR.out.size)); have O5 := bx (ownsRow_same PR.out (fun j hj => b5.block j (ownsRow_lt PR.out j hj))); have BA := bx (B5.out.alloc B5.out.size (.cells #[.int .i64 xa] 3)); clear hu5 b5))
        | ((with_reducible refine at_call 21 ?_); go_must (refine wpList_append_own _ rfl (.tmp 17) (.tmp 20) 43 rfl w.heap.size 3 i0 _ 1 8 Try.underlying43 HI0.out HI1.out HI2.out HI3.out rfl (by decide) _ k _ rfl (O5.out.alloc _) ⟨w5.heap.size, 0, none⟩ 1 1 [.int .i64 xa] rfl rfl blk_one one_ofInt HB2.out.1 HB2.out.2 BA.out.size ?_; intro v' w' q1 q2 q3; have K1 := bx q1; have K2 := bx q2; clear q1 q2 q3)))
      exact ⟨⟨k + 1, by omega, by go_num, by rw [HTK.out]; exact K1.out, BA.out.grown K2.out BA.out.size (fun j hj => (World.ownsRow.lt O5.out j hj).1)⟩, by simp [intOf]; omega⟩
    · obtain rfl : k = L := by omega
      have hix : ¬ (k : Int) < k := by omega
      have HTK : Bx (st.und.take k = st.und) := ⟨List.take_of_length_le (by rw [HL.out]; exact Nat.le_refl _)⟩
      go_wp2_with fail
      go_ret
      exact ⟨_, rfl, by have := PR.out; rw [HTK.out] at this; rw [← HL.out]; exact this, BR.out⟩
end Go.Proofs.Ythnommoljikaiaa
