/- The walk over the law AcceptOnce. -/
import Derived.Test.YthnommoljikaiaaAcc2
import Derived.Test.YthnommoljikaiaaErrs
import Derived.Deep.RegionWith
set_option linter.unusedSimpArgs false
set_option linter.unusedVariables false
namespace Go.Proofs.Ythnommoljikaiaa
open Go.RowKit

/-- A manifest that is told. -/
structure Told where
  gen : Int
  epoch : Int
  s : Sl
def Told.val (t : Told) : Value := .agg #[.int .u64 t.gen, .int .u64 t.epoch, t.s.val]
def U64 (x : Int) : Prop := 0 ≤ x ∧ x ≤ 18446744073709551615
theorem accept_code (p : Pin) (gen : Int) (bs : List Int) (epoch : Int) : (∃ c, acceptOf p gen bs epoch = (pin0, c) ∧ refused c = true ∧ c ≠ 0) ∨ (acceptOf p gen bs epoch = (⟨gen, epoch, shaOf bs⟩, 0) ∧ gen ≠ 0) := by
  unfold acceptOf
  split
  · exact .inl ⟨11, rfl, rfl, by decide⟩
  · split
    · exact .inl ⟨18, rfl, rfl, by decide⟩
    · split
      · exact .inl ⟨12, rfl, rfl, by decide⟩
      · exact .inr ⟨rfl, ‹_›⟩

set_option maxRecDepth 100000 in
set_option maxHeartbeats 1000000 in
theorem once_long (p : Pin) (t : Told) (o : Sl) (w : World) (hlong : 500 < t.s.n ∨ 500 < o.n) :
    Calls Try.prog 10 #[p.val, t.val, o.val] w fun e w' => e = .returned (.bool true) ∧ Below w.heap.size w w' := by
  obtain ⟨pg, pe, ps⟩ := p
  obtain ⟨gen, epoch, ⟨A, n, cap, bs⟩⟩ := t
  obtain ⟨A2, n2, cap2, bs2⟩ := o
  show Calls _ _ #[.agg (pinCells pg pe ps), .agg #[.int .u64 gen, .int .u64 epoch, .slice A n cap], .slice A2 n2 cap2] w _
  dsimp only at hlong
  have hb : Bx (Below w.heap.size w ((w.alloc (.cells (pinCells pg pe ps) 84)).alloc (.cells #[.int .u64 gen, .int .u64 epoch, .slice A n cap] 86))) := ⟨((Below.refl _ _).alloc (Nat.le_refl _) _).alloc (by simp) _⟩
  by_cases hn : 500 < n
  · clear hlong
    go_enter Try.func10, Try.ntmps10
    go_wp2_with fail
    go_ret
    exact ⟨rfl, hb.out⟩
  · have hn2 : 500 < n2 := by omega
    clear hlong
    go_enter Try.func10, Try.ntmps10
    go_wp2_with fail
    go_ret
    exact ⟨rfl, hb.out⟩

set_option maxRecDepth 100000 in
set_option maxHeartbeats 1000000 in
theorem once_refused (p : Pin) (t : Told) (o : Sl) (w : World) (hp : p.s.length = 32) (ht : t.s.Ok w) (h1 : t.s.n ≤ 500) (h2 : o.n ≤ 500) (c : Int) (hc : acceptOf p t.gen t.s.bs t.epoch = (pin0, c)) (hr : refused c = true) (hc0 : c ≠ 0) :
    Calls Try.prog 10 #[p.val, t.val, o.val] w fun e w' => e = .returned (.bool true) ∧ Below w.heap.size w w' := by
  obtain ⟨pg, pe, ps⟩ := p
  obtain ⟨gen, epoch, ⟨A, n, cap, bs⟩⟩ := t
  obtain ⟨A2, n2, cap2, bs2⟩ := o
  show Calls _ _ #[.agg (pinCells pg pe ps), .agg #[.int .u64 gen, .int .u64 epoch, .slice A n cap], .slice A2 n2 cap2] w _
  dsimp only at h1 h2 hc hp
  have hb : Bx (Below w.heap.size w ((w.alloc (.cells (pinCells pg pe ps) 84)).alloc (.cells #[.int .u64 gen, .int .u64 epoch, .slice A n cap] 86))) := ⟨((Below.refl _ _).alloc (Nat.le_refl _) _).alloc (by simp) _⟩
  have HP := bx hp; have HT := bx ht; have HC := bx hc; have HR := bx hr
  have hcb : (c == 0) = false := by rw [beq_eq_false_iff_ne]; exact hc0
  clear hp ht hc hr hc0
  have I34 : Bx ((Try.prog.info? 84).map (·.size) = some 34) := ⟨by kernel_rfl⟩
  go_enter Try.func10, Try.ntmps10
  go_wp2_with (first
    | ((with_reducible refine at_load 25 ?_); go_must (refine wpList_load_agg rfl 84 (.tmp 3) rfl w.heap.size 0 rfl 84 (pinCells pg pe ps) 34 _ (heap_alloc2_old w _ _) Try.underlying84 rfl I34.out (by rw [pin_size _ _ _ HP.out]; decide) (pinCells pg pe ps) (pin_all _ _ _ HP.out) ?_)))
  refine (accept_at ⟨pg, pe, ps⟩ gen epoch A n cap bs _ _ HC.out _ HP.out (HT.out.1.below hb.out) HT.out.2.1 HT.out.2.2 (by omega)).mono ?_
  rintro e w1 ⟨rfl, hb1⟩
  have B1 := bx (hb.out.trans (hb1.mono hb.out.size))
  clear hb1
  go_wp2_with (first
    | ((with_reducible refine at_store (.tmp 7) (.tmp 33) ?_); go_must (refine wpList_store_agg (cells := pinCells 0 0 zero32) rfl 84 (.tmp 7) (.tmp 33) rfl w1.heap.size 0 rfl rfl 84 (pinCells 0 0 zero32) (blk_new w1 _) I34.out (by decide) (pin_oneCell _ _ _) (pinCells 0 0 zero32) (pin_put _ rfl _ _ _ rfl) ?_; intro w2 hu2; have B2 := bx ((B1.out.alloc B1.out.size _).trans (hu2.below B1.out.size)); clear hu2)))
  refine (refused_any c _).mono ?_
  rintro e w' ⟨rfl, rfl⟩
  rw [HR.out]
  go_wp2_with fail
  refine (one18_any _).mono ?_
  rintro e w3 ⟨rfl, hb3⟩
  go_wp2_with fail
  go_ret
  exact ⟨rfl, B2.out.trans (hb3.mono B2.out.size)⟩
end Go.Proofs.Ythnommoljikaiaa
