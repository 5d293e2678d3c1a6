/- The document's disk: the walk over Fall. -/
import Derived.Test.YthnommoljikaiaaPly4
set_option linter.unusedSimpArgs false
set_option linter.unusedVariables false
namespace Go.Proofs.Ythnommoljikaiaa
open Go.RowKit

theorem RefAt.wide {w : World} {S T : Nat → Prop} {sv uv : Value} {n : Int} {f : Int → List Int} {und : List (Int × List Int)} (h : RefAt w S sv uv n f und) (hT : ∀ k, T k → k < w.heap.size → S k) : RefAt w T sv uv n f und :=
  ⟨h.safe, h.und, fun k hk ht => h.offS k hk (hT k ht (ownsRow_lt h.safe k hk)), fun k hk ht => h.offU k hk (hT k ht (ownsRow_lt h.und k hk))⟩
set_option maxRecDepth 100000 in
set_option maxHeartbeats 1600000 in
theorem rfall_any (w : World) (S : Nat → Prop) (v : Value) (st : DSt) (A0 : Option Addr) (n0 c0 : Nat) (fs : List Int) (h : RefIs w S v st) (hf : RdI w A0 n0 fs) (hS : ∀ k, S k → k < w.heap.size) (hn1 : 1 ≤ st.n) (hn2 : st.n ≤ 2048) (hu : st.und.length ≤ 100000)
    (h1 : ∀ j, (st.f j).length = 256) (h2 : ∀ x ∈ st.und, x.2.length = 256 ∧ 0 ≤ x.1 ∧ x.1 < st.n) (hn0 : n0 ≤ 1152921504606846976) :
    Calls Try.prog 30 #[v, .slice A0 n0 c0] w fun e w' => ∃ v', e = .returned v' ∧ RefIs w' S v' (fallOf st fs) ∧ Below w.heap.size w w' := by
  obtain ⟨A, c, B, d, rfl, hr⟩ := h
  have hB0 : Below w.heap.size w ((w.alloc (.cells #[.slice A st.n.toNat c, .slice B st.und.length d, .int .i64 st.left, .bool st.down] 40)).alloc (.cells #[.slice none 0 0, .slice none 0 0, .int .i64 0, .bool false] 40)) := ((Below.refl _ _).alloc (Nat.le_refl _) _).alloc (by simp) _
  obtain ⟨T, hT⟩ : ∃ T : Nat → Prop, T = fun j => S j ∨ j = w.heap.size ∨ j = w.heap.size + 1 := ⟨_, rfl⟩
  have HT0 : Bx (T w.heap.size) := ⟨by rw [hT]; exact .inr (.inl rfl)⟩
  have HT1 : Bx (T (w.heap.size + 1)) := ⟨by rw [hT]; exact .inr (.inr rfl)⟩
  have HTS : Bx (∀ k, S k → T k) := ⟨fun k hk => by rw [hT]; exact .inl hk⟩
  have hTl : ∀ k, T k → k < ((w.alloc (.cells #[.slice A st.n.toNat c, .slice B st.und.length d, .int .i64 st.left, .bool st.down] 40)).alloc (.cells #[.slice none 0 0, .slice none 0 0, .int .i64 0, .bool false] 40)).heap.size := fun k hk => by
    rw [hT] at hk
    have := hS k
    simp
    rcases hk with h | h | h
    · have := hS k h; omega
    · omega
    · omega
  have hw : RefAt w T (.slice A st.n.toNat c) (.slice B st.und.length d) st.n st.f st.und := hr.wide fun k hk hl => by
    rw [hT] at hk
    rcases hk with h | h | h
    · exact h
    · omega
    · omega
  have CALL := bx (rsettled_any ((w.alloc (.cells #[.slice A st.n.toNat c, .slice B st.und.length d, .int .i64 st.left, .bool st.down] 40)).alloc (.cells #[.slice none 0 0, .slice none 0 0, .int .i64 0, .bool false] 40)) T _ st A0 n0 c0 fs ⟨A, c, B, d, rfl, hw.kept hB0⟩ ⟨hf.1, fun hn => by obtain ⟨b, o, e, hb, hc⟩ := hf.2 hn; exact ⟨b, o, e, Nat.lt_of_lt_of_le hb hB0.size, fun j hj => (hB0.cell hb).trans (hc j hj)⟩⟩ hTl hn1 hn2 hu h1 h2 hn0)
  have B0 := bx hB0
  clear hr hw hf hS hTl hB0 hT h1 h2
  show Calls Try.prog 30 #[.agg #[.slice A st.n.toNat c, .slice B st.und.length d, .int .i64 st.left, .bool st.down], .slice A0 n0 c0] w _
  go_enter Try.func30, Try.ntmps30
  go_wp2_with (first
    | ((with_reducible refine at_load 5 ?_); go_must (refine wpList_load_agg rfl 40 (.tmp 2) rfl w.heap.size 0 rfl 40 _ 4 _ (heap_alloc2_old w _ _) Try.underlying40 rfl rdInfo (Nat.le_refl 4) (rCells (.slice A st.n.toNat c) (.slice B st.und.length d) st.left st.down) rfl ?_)))
  refine CALL.out.mono ?_
  rintro e w1 ⟨v1, rfl, ⟨A1, c1, B1, d1, rfl, hr1⟩, hb1⟩
  have K1 := bx ((hb1.block w.heap.size (by simp; omega)).trans (heap_alloc2_old w _ _))
  have Z1 := bx ((hb1.block (w.heap.size + 1) (by simp)).trans (heap_alloc2_new w _ _))
  have BB1 := bx (B0.out.trans (hb1.mono (by simp; omega)))
  have R1 := bx hr1
  clear hb1 hr1 CALL B0
  go_wp2_with (first
    | ((with_reducible refine at_store (.tmp 2) (.tmp 7) ?_); go_must (refine wpList_store_agg (cells := rCells (.slice A1 (settled st (fate fs)).n.toNat c1) (.slice B1 (settled st (fate fs)).und.length d1) (settled st (fate fs)).left (settled st (fate fs)).down) rfl 40 (.tmp 2) (.tmp 7) rfl w.heap.size 0 rfl rfl 40 #[.slice A st.n.toNat c, .slice B st.und.length d, .int .i64 st.left, .bool st.down] K1.out rdInfo (Nat.le_refl 4) (rd_one _ _ _ _ _ _ _ _) (rCells (.slice A1 (settled st (fate fs)).n.toNat c1) (.slice B1 (settled st (fate fs)).und.length d1) (settled st (fate fs)).left (settled st (fate fs)).down) (putRow_all _ _ rfl) ?_; intro w2 hu2; have f2 : w2.frozen? ⟨w.heap.size, 2, none⟩ = false := blk_frozen 2 hu2.same; have f3 : w2.frozen? ⟨w.heap.size, 3, none⟩ = false := blk_frozen 3 hu2.same; have e2 : w2.cell? ⟨w.heap.size, 2, none⟩ = some (.int .i64 (settled st (fate fs)).left) := blk_cell hu2.same rfl; have e3 : w2.cell? ⟨w.heap.size, 3, none⟩ = some (.bool (settled st (fate fs)).down) := blk_cell hu2.same rfl; have U2 := bx hu2; have U3 := bx (upd_cell hu2.same (j := 2) (.int .i64 (-1))); have U4 := bx (upd_cell U3.out.same (j := 3) (.bool false)); clear hu2))
    | ((with_reducible refine at_load 10 ?_); go_must (refine wpList_load_agg rfl 40 (.tmp 2) rfl w.heap.size 0 rfl 40 _ 4 _ U4.out.same Try.underlying40 rfl rdInfo (Nat.le_refl 4) (rCells (.slice A1 (settled st (fate fs)).n.toNat c1) (.slice B1 (settled st (fate fs)).und.length d1) (-1) false) rfl ?_))
    | ((with_reducible refine at_store (.tmp 4) (.tmp 10) ?_); go_must (refine wpList_store_agg (cells := rCells (.slice A1 (settled st (fate fs)).n.toNat c1) (.slice B1 (settled st (fate fs)).und.length d1) (-1) false) rfl 40 (.tmp 4) (.tmp 10) rfl (w.heap.size + 1) 0 rfl rfl 40 #[.slice none 0 0, .slice none 0 0, .int .i64 0, .bool false] ((U4.out.other _ (by omega)).trans ((U3.out.other _ (by omega)).trans ((U2.out.other _ (by omega)).trans Z1.out))) rdInfo (Nat.le_refl 4) (rd_one _ _ _ _ _ _ _ _) (rCells (.slice A1 (settled st (fate fs)).n.toNat c1) (.slice B1 (settled st (fate fs)).und.length d1) (-1) false) (putRow_all _ _ rfl) ?_; intro w5 hu5)))
  refine bodyPost_ret (results_agg (cs := rCells (.slice A1 (settled st (fate fs)).n.toNat c1) (.slice B1 (settled st (fate fs)).und.length d1) (-1) false) rfl _ _ (w.heap.size + 1) 40 _ rfl hu5.same Try.underlying40 rfl rdInfo) rfl ?_
  have ho := ((((Only.refl T w1).upd U2.out HT0.out).upd U3.out HT0.out).upd U4.out HT0.out).upd hu5 HT1.out
  have hb := BB1.out.trans ((U2.out.below (Nat.le_refl _)).trans ((U3.out.below (Nat.le_refl _)).trans ((U4.out.below (Nat.le_refl _)).trans (hu5.below (by omega)))))
  exact ⟨_, rfl, ⟨A1, c1, B1, d1, rfl, (R1.out.only ho (fun k hk _ => hk)).wide fun k hk _ => HTS.out k hk⟩, hb⟩
end Go.Proofs.Ythnommoljikaiaa
