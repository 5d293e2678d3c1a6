/- The walk over sha's Write. -/
import Derived.Test.YthnommoljikaiaaDoorSha3
import Derived.Deep.RegionWith
set_option linter.unusedSimpArgs false
set_option linter.unusedVariables false
namespace Go.Proofs.YthnommoljikaiaaDoor
open Go.RowKit

def sliceLen : Value → Nat | .slice _ n _ => n | _ => 0
def hsCells (h : Hs) : Array Value := hashCells true h.st h.rest h.n

theorem isB_take {l : List Int} (h : IsB l) (n : Nat) : IsB (l.take n) := by
  intro j
  have := h j
  simp only [List.getD_eq_getElem?_getD, List.getElem?_take] at this ⊢
  split
  · exact this
  · exact ⟨by decide, by decide⟩
theorem isB_drop {l : List Int} (h : IsB l) (n : Nat) : IsB (l.drop n) := by
  intro j
  have := h (n + j)
  simp only [List.getD_eq_getElem?_getD, List.getElem?_drop] at this ⊢
  exact this
theorem isB_append {a b : List Int} (h : IsB a) (k : IsB b) : IsB (a ++ b) := by
  intro j
  have h1 := h j; have h2 := k (j - a.length)
  simp only [List.getD_eq_getElem?_getD, List.getElem?_append] at h1 h2 ⊢
  split <;> assumption
theorem isB_over {r cs : List Int} (h : IsB r) (off : Nat) (k : IsB cs) (_hl : off + cs.length ≤ r.length) : IsB (over r off cs) :=
  isB_append (isB_append (isB_take h off) k) (isB_drop h _)
theorem upd_setCell {w : World} {g : Nat} {c : Array Value} {T : TypeId} (h : w.heap[g]? = some (.cells c T (0, 0))) (j : Nat) (v : Value) : Upd w (w.setCell ⟨g, j, none⟩ v) g (.cells (c.setIfInBounds j v) T (0, 0)) :=
  ⟨rfl, rfl, rfl, by simp [World.setCell], heap_setCell_same w g j c T v h, fun k hk => heap_setCell_other w _ k v hk⟩

set_option maxRecDepth 100000 in
set_option maxHeartbeats 2000000 in
theorem write_any (g : Nat) (h : Hs) (A : Option Addr) (n cap : Nat) (bs : List Int) (T : TypeId) (w : World) (hst : h.st.length = 8) (hrest : h.rest.length = 64) (hB : IsB h.rest) (hbs : IsB bs)
    (hrd : RdX w g A n bs) (hcap : n ≤ cap) (hbig : h.n + n ≤ 4611686018427387904) (hg : w.heap[g]? = some (.cells (hsCells h) T (0, 0))) :
    Calls Tryd.prog 85 #[.pointer (some ⟨g, 0, none⟩), .slice A n cap] w fun e w' =>
      e = .returned (.tuple #[]) ∧ Put1 w w' g (.cells (hsCells (absorbs h bs)) T (0, 0)) := by
  have hgs : g < w.heap.size := blk_lt hg
  have c0 : w.cell? ⟨g, 0, none⟩ = some (.bool true) := blk_cell hg rfl
  have P0 : Put1 w w g (.cells (hsCells h) T (0, 0)) := ⟨rfl, rfl, rfl, Nat.le_refl _, hg, fun _ _ _ => rfl⟩
  have Hst := Lib.hid hst; have Hrest := Lib.hid hrest; have HB := Lib.hid hB; have Hbs := Lib.hid hbs; have Hrd := Lib.hid hrd; have HP0 := Lib.hid P0
  have Hln := Lib.hid hrd.1
  clear hst hrest hB hbs hrd P0 hg
  go_enter Tryd.func85, Tryd.ntmps85
  go_wp2
  clear c0
  go_loopw [1, 4] (fun b k wr => ∃ i : Nat, i ≤ n ∧ ∃ A' : Option Addr, b = .slice A' (n - i) (cap - i) ∧ RdX wr g A' (n - i) (bs.drop i) ∧ Put1 w wr g (.cells (hsCells (absorbs h (bs.take i))) T (0, 0)))
    (fun b _ _ => sliceLen b)
  case atStart => exact ⟨0, by omega, A, rfl, Hrd.out, HP0.out⟩
  case round =>
    obtain ⟨i, hi, A', rfl, hR, hP⟩ := hrel
    by_cases hlt : i < n
    · have hl1 := absorbs_st (bs.take i) h Hst.out
      have hl2 := absorbs_rest (bs.take i) h Hrest.out
      have hn : (absorbs h (bs.take i)).n = h.n + i := by rw [absorbs_n, List.length_take, Hln.out]; omega
      have hHB := absorbs_isB (bs.take i) h HB.out (isB_take Hbs.out i)
      generalize hK : absorbs h (bs.take i) = K at *
      have HK := Lib.hid hK; clear hK
      have hN : K.n ≤ 4611686018427387904 - (n - i) := by omega
      have c73 : wr.cell? ⟨g, 73, none⟩ = some (.int .u64 K.n) := blk_cell hP.same (hash_n hl1 hl2)
      have f73 := blk_frozen 73 hP.same
      have hm : K.n % 64 < 64 := Nat.mod_lt _ (by decide)
      have H1 := Lib.hid hl1; have H2 := Lib.hid hl2; have H3 := Lib.hid hn; have H4 := Lib.hid hHB
      clear hl1 hl2 hn hHB
      obtain ⟨b, o, rfl, hne, hblt, hcell⟩ := hR.2 (by omega)
      have hRl := hR.1
      have sl4 := arr_slice_l Tryd.underlying138 Tryd.sizeOf5 g 9 (K.n % 64) (by omega) .u64 ((K.n : Int).tmod 64) (by rw [Int.tmod_eq_emod_of_nonneg (by omega)]; omega)
      have ne64 : ¬ (64 : Nat) = K.n % 64 := by omega
      simp only [ne64, if_false] at sl4
      clear ne64
      obtain ⟨CS, hCS⟩ : ∃ CS, CS = (bs.drop i).take (Nat.min (n - i) (64 - K.n % 64)) := ⟨_, rfl⟩
      have hcl : CS.length = Nat.min (n - i) (64 - K.n % 64) := by rw [hCS, List.length_take, hRl]; simp only [Nat.min_def]; split <;> split <;> omega
      have hc1 : CS.length ≤ n - i := by rw [hcl]; exact Nat.min_le_left _ _
      have hc2 : K.n % 64 + CS.length ≤ 64 := by have h' : CS.length = min (n - i) (64 - K.n % 64) := hcl; omega
      have hc3 : 0 < CS.length := by have h' : CS.length = min (n - i) (64 - K.n % 64) := hcl; omega
      have hsrc : ∀ j v, (CS.map (Value.int .u8))[j]? = some v → wr.cell? ((⟨b, o, none⟩ : Addr).add j) = some v := by
        intro j v hv
        have hj : j < CS.length := by have := (List.getElem?_eq_some_iff.1 hv).1; simpa using this
        rw [addr_add, hcell j (by omega), ← hv, hCS]
        rw [hCS] at hj
        simp only [List.length_take] at hj
        simp only [List.getElem?_map, List.getElem?_take, List.getD_eq_getElem?_getD]
        rw [if_pos (by omega), List.getElem?_eq_getElem (by omega)]
        rfl
      have hfit : 9 + K.n % 64 + (CS.map (Value.int .u8)).length ≤ (hsCells K).size := by rw [List.length_map]; show _ ≤ (hashCells _ _ _ _).size; rw [hash_size H1.out H2.out]; omega
      have hlen : (CS.map (Value.int .u8)).length = Nat.min (n - i) (64 - K.n % 64) := by rw [List.length_map, hcl]
      have I1 : Hid ((Tryd.prog.info? 5).map (·.size) = some 1) := by show _ = _; kernel_rfl
      have hHB2 : IsB (over K.rest (K.n % 64) CS) := isB_over H4.out _ (by rw [hCS]; exact isB_take (isB_drop Hbs.out i) _) (by rw [H2.out]; omega)
      have hab : absorbs h (bs.take (i + CS.length)) = { st := if (K.n + CS.length) % 64 = 0 then blockOf K.st (over K.rest (K.n % 64) CS) else K.st, rest := over K.rest (K.n % 64) CS, n := K.n + CS.length } := by
        rw [← absorb_chunk CS K hc3 hc2 H2.out, ← HK.out, ← absorbs_append, List.take_add]
        congr 2
        have e : CS.length = Nat.min (n - i) (64 - K.n % 64) := hcl
        rw [e, hCS]
      have hA2 := hR.drop CS.length (cap - i) hc1 (by omega)
      have sl5 := sl_l Tryd.underlying41 Tryd.sizeOf5 (some ⟨b, o, none⟩) (n - i) (cap - i) CS.length hc1 .i64 (CS.length : Int) rfl
      generalize hA2e : (if cap - i = CS.length then some (⟨b, o, none⟩ : Addr) else Option.map (fun x : Addr => x.add CS.length) (some (⟨b, o, none⟩ : Addr))) = A2 at *
      have HA2 := Lib.hid hA2; have Hab := Lib.hid hab; have HHB2 := Lib.hid hHB2
      clear hA2 hA2e hab hHB2
      have HCS := Lib.hid hCS; have Hcl := Lib.hid hcl; have Hsrc := Lib.hid hsrc; have Hfit := Lib.hid hfit; have Hlen := Lib.hid hlen
      have hPs := Lib.hid hP.same; have HR := Lib.hid hR
      clear hCS hcl hsrc hfit hlen hcell hRl hR
      go_wp2
      go_region_law (refine step_copy_upd rfl (.tmp 30) (.tmp 31) 41 41 rfl 5 Tryd.underlying41 I1.out g (9 + K.n % 64) ⟨b, o, none⟩ (64 - K.n % 64) (64 - K.n % 64) (n - i) (cap - i) rfl rfl (hsCells K) T hPs.out (CS.map (Value.int .u8)) Hlen.out Hsrc.out Hfit.out (oneCell_map_int _ _) ?_; intro w6 hu6)
      all_goals
        have e6 : w6.heap[g]? = some (.cells (hashCells true K.st (over K.rest (K.n % 64) CS) K.n) T (0, 0)) := by
          have := hu6.same
          rw [hsCells, hash_over H1.out _ _ (by rw [H2.out]; omega)] at this
          exact this
        have hol : (over K.rest (K.n % 64) CS).length = 64 := by rw [over_length _ _ _ (by rw [H2.out]; omega)]; exact H2.out
        have c73' : w6.cell? ⟨g, 73, none⟩ = some (.int .u64 K.n) := blk_cell e6 (hash_n H1.out hol)
        have f73' := blk_frozen 73 e6
        have e7 : (w6.setCell ⟨g, 73, none⟩ (.int .u64 ((K.n : Int) + CS.length))).heap[g]? = some (.cells (hashCells true K.st (over K.rest (K.n % 64) CS) ((K.n : Int) + CS.length)) T (0, 0)) := by
          rw [heap_setCell_same w6 g 73 _ T _ e6, hash_setn H1.out hol]
        have p6 : Put1 w w6 g _ := hP.drew.upd hu6
        have r6 : RdX w6 g A2 (n - i - CS.length) ((bs.drop i).drop CS.length) := RdX.upd (w := wr.drew) HA2.out hu6
        have p7 := p6.setCell (j := 73) (.int .u64 ((K.n : Int) + CS.length))
        have r7 : RdX (w6.setCell ⟨g, 73, none⟩ (.int .u64 ((K.n : Int) + CS.length))) g A2 (n - i - CS.length) ((bs.drop i).drop CS.length) := r6.upd (upd_setCell e6 73 _)
        have E7 := Lib.hid e7; have Hol := Lib.hid hol; have P7 := Lib.hid p7; have R7 := Lib.hid r7
        clear e6 e7 hol c73 f73 p6 p7 r6 r7 hP hu6
        by_cases hz : (K.n + CS.length) % 64 = 0
        · have hz1 : (((K.n : Int) + CS.length) % 64 == 0) = true := by rw [beq_iff_eq]; omega
          have Hz := Lib.hid hz; clear hz
          go_wp2
          go_region_with ((go_at_call 94; refine (take_any g true K.st (over K.rest (K.n % 64) CS) ((K.n : Int) + CS.length) T _ H1.out Hol.out HHB2.out ?_).mono ?_; exact E7.out; rintro e w7 ⟨rfl, hp7⟩))
          all_goals
            go_wp2
            go_roundw
            case rel =>
              refine ⟨i + CS.length, by omega, A2, by rw [Nat.sub_sub, Nat.sub_sub], ?_, ?_⟩
              · have := RdX.put1 (w := (w6.setCell ⟨g, 73, none⟩ (.int .u64 ((K.n : Int) + CS.length))).drew) R7.out hp7
                rw [Nat.sub_sub, List.drop_drop] at this
                exact this
              · have := Put1.trans (w1 := (w6.setCell ⟨g, 73, none⟩ (.int .u64 ((K.n : Int) + CS.length))).drew) P7.out.drew hp7
                rw [Hab.out, if_pos Hz.out]
                exact this
            case measure => simp [sliceLen]; omega
        · have hz1 : (((K.n : Int) + CS.length) % 64 == 0) = false := by rw [beq_eq_false_iff_ne]; omega
          have Hz := Lib.hid hz; clear hz
          go_wp2
          go_roundw
          case rel =>
            refine ⟨i + CS.length, by omega, A2, by rw [Nat.sub_sub, Nat.sub_sub], ?_, ?_⟩
            · have := R7.out
              rw [Nat.sub_sub, List.drop_drop] at this
              exact this
            · rw [Hab.out, if_neg Hz.out]
              have := P7.out
              rw [hsCells, hash_over H1.out _ _ (by rw [H2.out]; omega), hash_setn H1.out Hol.out] at this
              exact this
          case measure => simp [sliceLen]; omega
    · obtain rfl : i = n := by omega
      have hz : i - i = 0 := by omega
      go_wp2
      go_end0
      refine ⟨rfl, ?_⟩
      have := hP
      rw [List.take_of_length_le (by rw [Hln.out]; exact Nat.le_refl _)] at this
      exact this
end Go.Proofs.YthnommoljikaiaaDoor
