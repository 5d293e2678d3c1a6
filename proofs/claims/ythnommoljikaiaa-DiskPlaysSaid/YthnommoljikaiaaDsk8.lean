/- The walk over Sync. -/
import Derived.Test.YthnommoljikaiaaDsk7
set_option linter.unusedSimpArgs false
set_option linter.unusedVariables false
namespace Go.Proofs.Ythnommoljikaiaa
open Go.RowKit

/-- The first k writes are settled, each by its fate. -/
def settleUp (st : DSt) (F : Nat → Int) : Nat → DSt
  | 0 => st
  | k + 1 => if h : k < st.und.length then settleOf (settleUp st F k) st.und[k].1 st.und[k].2 (F k) else settleUp st F k
theorem settleOf_rest (st : DSt) (a : Int) (b : List Int) (f : Int) : (settleOf st a b f).und = st.und ∧ (settleOf st a b f).n = st.n ∧ (settleOf st a b f).left = st.left ∧ (settleOf st a b f).down = st.down := by
  unfold settleOf
  split <;> exact ⟨rfl, rfl, rfl, rfl⟩
theorem settleUp_rest (st : DSt) (F : Nat → Int) : ∀ k, (settleUp st F k).und = st.und ∧ (settleUp st F k).n = st.n ∧ (settleUp st F k).left = st.left ∧ (settleUp st F k).down = st.down
  | 0 => ⟨rfl, rfl, rfl, rfl⟩
  | k + 1 => by
    have ih := settleUp_rest st F k
    rw [settleUp]
    split
    · have h := settleOf_rest (settleUp st F k) st.und[k].1 st.und[k].2 (F k)
      exact ⟨h.1.trans ih.1, h.2.1.trans ih.2.1, h.2.2.1.trans ih.2.2.1, h.2.2.2.trans ih.2.2.2⟩
    · exact ih
theorem settleUp_succ (st : DSt) (F : Nat → Int) (k : Nat) (h : k < st.und.length) : settleUp st F (k + 1) = settleOf (settleUp st F k) st.und[k].1 st.und[k].2 (F k) := by rw [settleUp, dif_pos h]
/-- All that is under way is settled. -/
def settled (st : DSt) (F : Nat → Int) : DSt := { settleUp st F st.und.length with und := [] }
def syncOf (st : DSt) : DSt × Int :=
  if mayOf st 0 ≠ 0 then (st, mayOf st 0)
  else if (callOf st.left st.down).2.2 ≠ 0 then ({ st with left := (callOf st.left st.down).1, down := (callOf st.left st.down).2.1 }, (callOf st.left st.down).2.2)
  else (settled { st with left := (callOf st.left st.down).1, down := (callOf st.left st.down).2.1 } (fun _ => 256), 0)
/-- Nothing is under way any more. -/
theorem DskAt.clear {w : World} {S : Nat → Prop} {D mb : Nat} {uv : Value} {st : DSt} (h : DskAt w S D mb uv st) : DskAt (w.setCell ⟨D, 2, none⟩ (.slice none 0 0)) S D mb (.slice none 0 0) { st with und := [] } ∧ Only S w (w.setCell ⟨D, 2, none⟩ (.slice none 0 0)) := by
  have hu := upd_cell h.blk (j := 2) (.slice none 0 0)
  obtain ⟨g, hm, hg⟩ := h.map
  exact ⟨⟨hu.same, ⟨g, hm.same (hu.other mb h.ne_map), hg⟩, World.ownsRow_nil _ _ _ _, h.inD, h.inM, (fun k hk => by cases hk), h.secs, (fun x hx => by cases hx), h.lo, h.hi, h.n1, h.n2⟩, (Only.refl S w).upd hu h.inD⟩

set_option maxRecDepth 100000 in
set_option maxHeartbeats 2000000 in
theorem dsync_any (w : World) (S : Nat → Prop) (D : Nat) (st : DSt) (h : DskIs w S D st) (hu : st.und.length ≤ 100000) :
    Calls Try.prog 20 #[.pointer (some ⟨D, 0, none⟩)] w fun e w' => e = .returned (.int .i64 (syncOf st).2) ∧ DskIs w' S D (syncOf st).1 ∧ Only S w w' := by
  obtain ⟨mb, uv, hd⟩ := h
  have HMAY := bx (may_any w D st _ uv 0 hd.blk hd.n1)
  have HC := bx (call_any w D st.n (.map (some mb)) uv st.left st.down hd.blk hd.lo hd.hi)
  have HCB := bx (callOf_bounds st.down hd.lo hd.hi)
  have HD := bx hd
  by_cases hm : mayOf st 0 = 0
  · rw [hm] at HMAY
    have hso : syncOf st = if (callOf st.left st.down).2.2 ≠ 0 then ({ st with left := (callOf st.left st.down).1, down := (callOf st.left st.down).2.1 }, (callOf st.left st.down).2.2)
        else (settled { st with left := (callOf st.left st.down).1, down := (callOf st.left st.down).2.1 } (fun _ => 256), 0) := by rw [syncOf, if_neg (fun h => h hm)]
    generalize callOf st.left st.down = cl at *
    obtain ⟨left', down', code⟩ := cl
    dsimp only at HC HCB hso
    clear hm hd
    by_cases hc : code = 0
    · subst hc
      rw [if_neg (fun h => h rfl)] at hso
      have HSO := bx hso
      clear hso
      obtain ⟨st1, hst1⟩ : ∃ st1 : DSt, st1 = { st with left := left', down := down' } := ⟨_, rfl⟩
      have HU1 : Bx (∀ w', Upd w w' D (.cells (dCells st.n (.map (some mb)) uv left' down') 63 (0, 0)) → DskAt w' S D mb uv st1 ∧ Only S w w') :=
        ⟨fun w' hu' => ⟨by rw [hst1]; exact HD.out.upd hu' HCB.out.1 HCB.out.2, (Only.refl S w).upd hu' HD.out.inD⟩⟩
      obtain ⟨L, hL⟩ : ∃ L, L = st1.und.length := ⟨_, rfl⟩
      have hL2 : L ≤ 100000 := by rw [hL, hst1]; exact hu
      rw [← hst1] at HSO
      have HL := bx hL; have HST1 := bx hst1
      clear hL hst1 hu
      obtain ⟨uA, uc, hue⟩ := ownsRow_len HD.out.und
      have HE : Bx (uv = .slice uA L uc) := ⟨by rw [hue, HL.out, HST1.out]⟩
      clear hue
      go_enter Try.func20, Try.ntmps20
      go_wp2_with fail
      refine HMAY.out.mono ?_
      rintro e w' ⟨rfl, rfl⟩
      go_wp2_with fail
      refine HC.out.mono ?_
      rintro e w1 ⟨rfl, hu1⟩
      obtain ⟨hd1, ho1⟩ := HU1.out w1 hu1
      have HD1 := bx hd1; have O1 := bx ho1
      have c2 : w1.cell? ⟨D, 2, none⟩ = some (.slice uA L uc) := by rw [← HE.out]; exact blk_cell hd1.blk rfl
      clear hu1 hd1 ho1
      go_wp2_with fail
      go_loopw [22] (fun q wr => ∃ k : Nat, k ≤ L ∧ q = .int .i64 k ∧ DskAt wr S D mb uv (settleUp st1 (fun _ => 256) k) ∧ Only (fun j => j = mb) w1 wr) (fun q _ => L - (intOf q).toNat)
      case atStart => exact ⟨0, Nat.zero_le _, rfl, HD1.out, Only.refl _ _⟩
      case round =>
        obtain ⟨k, hk, rfl, hp, hb⟩ := hrel
        have PR := bx hp; have BR := bx hb
        clear hp hb c2
        have hrest := settleUp_rest st1 (fun _ => 256) k
        by_cases hlt : k < L
        · have hkl : k < st1.und.length := by rw [← HL.out]; exact hlt
          have hex := und_extract (u := st1.und) (w := wr) (uv := uv) (by have := PR.out.und; rw [hrest.1] at this; exact this) HD1.out.unds (by omega)
          have hst := settleUp_succ st1 (fun _ => 256) k hkl
          have hok := HD1.out.unds st1.und[k] (List.getElem_mem hkl)
          obtain ⟨g, cap, cur, hue, hh, hcap, hx⟩ := hex
          obtain ⟨hx1, hx2⟩ := hx k hkl
          rw [HE.out] at hue
          simp only [Value.slice.injEq] at hue
          obtain ⟨rfl, hx0, rfl⟩ := hue
          clear hx0
          generalize st1.und[k] = x at hst hok hx2
          obtain ⟨xa, xb⟩ := x
          dsimp only at hst hok hx2
          have HX1 := bx hx1; have HX2 := bx hx2; have HOX := bx hok; have H2 := bx hh; have HSX := bx hst
          have hix : (k : Int) < L := by omega
          have HWI : Bx ((Try.prog.info? 142).map (·.size) = some (wCells xa xb).size) := ⟨by rw [wCells_size hok]; exact wrInfo⟩
          have HWF : Bx (0 + (wCells xa xb).size ≤ (wCells 0 zeros256).size) := ⟨by rw [wCells_size hok, wCells_size zeros_ok]; decide⟩
          have HWP : Bx (putRow (wCells 0 zeros256) 0 (wCells xa xb).toList = wCells xa xb) := ⟨putRow_all _ _ (by rw [Array.length_toList, wCells_size hok, wCells_size zeros_ok])⟩
          have EW : Bx ((wCells xa xb).extract 0 (0 + 257) = wCells xa xb) := ⟨by rw [← wCells_size (at_ := xa) hok, Nat.zero_add, Array.extract_size]⟩
          clear hh hx hx1 hx2 hok hst hrest
          go_wp2_with (first
            | ((with_reducible refine at_load 25 ?_); go_must (refine wpList_load_agg rfl 142 (.tmp 24) rfl g (k * 257) rfl 142 cur 257 _ H2.out Try.underlying142 rfl wrInfo HX1.out (wCells xa xb) HX2.out ?_))
            | ((with_reducible refine at_store (.tmp 6) (.tmp 25) ?_); go_must (refine wpList_store_agg rfl 142 (.tmp 6) (.tmp 25) rfl wr.heap.size 0 (wCells xa xb) rfl rfl 142 (wCells 0 zeros256) (blk_wr wr) HWI.out HWF.out (wCells_one _ _) (wCells xa xb) HWP.out ?_; intro w5 hu5; have b5 := ((Below.refl wr.heap.size wr).alloc (Nat.le_refl _) (.cells Try.zeroCells142 142)).trans (hu5.below (Nat.le_refl _)); have P5 := bx hu5.same; have B5 := bx b5; clear hu5 b5))
            | ((with_reducible refine at_load 27 ?_); go_must (refine wpList_load_agg rfl 142 (.tmp 6) rfl wr.heap.size 0 rfl 142 (wCells xa xb) 257 _ P5.out Try.underlying142 rfl wrInfo (by rw [wCells_size HOX.out]; decide) (wCells xa xb) EW.out ?_)))
          refine (settle_any _ S D mb uv (settleUp st1 (fun _ => 256) k) xa xb 256 (PR.out.kept B5.out) HOX.out).mono ?_
          rintro e w6 ⟨rfl, hd6, ho6⟩
          rw [← HSX.out] at hd6
          have HD6 := bx hd6; have O6 := bx ((BR.out.trans (only_of_below B5.out)).trans ho6)
          clear hd6 ho6
          go_wp2_with fail
          exact ⟨⟨k + 1, by omega, by go_num, HD6.out, O6.out⟩, by simp [intOf]; omega⟩
        · obtain rfl : k = L := by omega
          have hix : ¬ (k : Int) < k := by omega
          have c2 : wr.cell? ⟨D, 2, none⟩ = some uv := blk_cell PR.out.blk rfl
          have f2 : wr.frozen? ⟨D, 2, none⟩ = false := blk_frozen 2 PR.out.blk
          have HF := bx PR.out.clear
          clear hrest
          go_wp2_with fail
          go_ret
          refine ⟨by rw [HSO.out]; rfl, ?_, (O1.out.trans (BR.out.mono (fun j hj => hj ▸ HD.out.inM))).trans HF.out.2⟩
          rw [HSO.out]
          refine ⟨mb, .slice none 0 0, ?_⟩
          show DskAt _ S D mb _ (settled st1 _)
          rw [settled, ← HL.out]
          exact HF.out.1
    · rw [if_pos hc] at hso
      have HSO := bx hso
      have hcb : (code != 0) = true := by simp [hc]
      clear hso hc
      go_enter Try.func20, Try.ntmps20
      go_wp2_with fail
      refine HMAY.out.mono ?_
      rintro e w' ⟨rfl, rfl⟩
      go_wp2_with fail
      refine HC.out.mono ?_
      rintro e w1 ⟨rfl, hu1⟩
      have HU1 := bx hu1
      clear hu1
      go_wp2_with fail
      go_ret
      exact ⟨by rw [HSO.out]; rfl, by rw [HSO.out]; exact ⟨mb, uv, HD.out.upd HU1.out HCB.out.1 HCB.out.2⟩, (Only.refl S w).upd HU1.out HD.out.inD⟩
  · have HSO : Bx (syncOf st = (st, mayOf st 0)) := ⟨by rw [syncOf, if_pos hm]⟩
    generalize mayOf st 0 = c at *
    have hc : (c != 0) = true := by simp [hm]
    clear hm hd
    go_enter Try.func20, Try.ntmps20
    go_wp2_with fail
    refine HMAY.out.mono ?_
    rintro e w' ⟨rfl, rfl⟩
    go_wp2_with fail
    go_ret
    exact ⟨by rw [HSO.out]; rfl, by rw [HSO.out]; exact ⟨mb, uv, HD.out⟩, Only.refl _ _⟩
end Go.Proofs.Ythnommoljikaiaa
