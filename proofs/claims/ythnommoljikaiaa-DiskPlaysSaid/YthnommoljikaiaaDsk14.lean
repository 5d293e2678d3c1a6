/- The walks over maps.Clone, slices.Clone of writes, Clone and Under of a disk, and Fates. -/
import Derived.Test.YthnommoljikaiaaDsk12
import Derived.Stop.Asserts
import GoSem.Extern.MapsClone
set_option linter.unusedSimpArgs false
set_option linter.unusedVariables false
namespace Go.Proofs.Ythnommoljikaiaa
open Go.RowKit Go.Extern.Stop Go.Stop Go.Extern

theorem mapI_cloned {w : World} {mb : Nat} {g : Int → Option Value} (h : MapI .i64 w mb g) :
    ∃ o, (∀ t, (Extern.MapsClone.clone #[.iface t (.map (some mb))]).run Try.prog w = .ok (.iface t (.map (some w.heap.size))) (w.alloc o)) ∧ MapI .i64 (w.alloc o) w.heap.size g := by
  obtain ⟨es, clock, hb, h2⟩ := h
  refine ⟨.map es clock, fun t => ?_, es, clock, blk_new w _, h2⟩
  have e : Extern.MapsClone.clone #[.iface t (.map (some mb))] = (getObj mb >>= fun o => match o with
      | .map entries clock => (newObj (.map entries clock) >>= fun n => pure (.iface t (.map (some n))))
      | _ => stuck "maps.clone: a map expected") := rfl
  rw [e]
  simp [MapKept.run_getObj_map hb, Result.andThen, go_sem]
theorem assert_map (v : Value) (xT : TypeId) (w : World) : (Instr.typeAssert (.iface 60 v) xT 60 false).run Try.prog w = .ok v w := by
  simp [Instr.typeAssert, run_underlying Try.underlying60, go_sem, Result.andThen]
set_option maxRecDepth 100000 in
theorem mclone_any (w : World) (mb : Nat) (g : Int → Option Value) (hm : MapI .i64 w mb g) :
    Calls Try.prog 73 #[.map (some mb)] w fun e w' => e = .returned (.map (some w.heap.size)) ∧ MapI .i64 w' w.heap.size g ∧ Below w.heap.size w w' := by
  have h8 := @run_callFunc_extern Try.prog 104 _ Extern.MapsClone.clone Try.func104 (by kernel_rfl) (by kernel_rfl) (by kernel_rfl) (by kernel_rfl)
  obtain ⟨o, hc0, hm0⟩ := mapI_cloned hm
  have hc := hc0 60
  have hb := (Below.refl w.heap.size w).alloc (Nat.le_refl _) o
  have hta := assert_map
  have hE := fun w => run_eql_map_nil (P := Try.prog) w 60 3 140 (some mb) Try.underlying60
  have HM := bx hm0; have HB := bx hb
  clear hm hm0 hc0 hb
  go_enter Try.func73, Try.ntmps73
  go_wp2
  go_ret
  exact ⟨rfl, HM.out, HB.out⟩
set_option maxRecDepth 100000 in
set_option maxHeartbeats 400000 in
theorem wclone_any (w : World) (v : Value) (n : Nat) (xs : List Value) (h : w.ownsRow 0 142 257 v n xs) (h1 : ∀ u ∈ xs, u.oneCell' = true) (hn : n ≤ 100000) :
    Calls Try.prog 74 #[v] w fun e w' => ∃ v', e = .returned v' ∧ w'.ownsRow w.heap.size 142 257 v' n xs ∧ Below w.heap.size w w' := by
  obtain ⟨i0, hi, hz0, hz1, hz2⟩ := info_parts wInfo
  obtain ⟨hlx, ⟨rfl, rfl⟩ | ⟨g, cap, cur, rfl, hg, hh, hnc, hm, hs, htk⟩⟩ := id h
  · obtain rfl : xs = [] := List.eq_nil_of_length_eq_zero (by simpa using hlx)
    have hE := fun w => Lib.run_eql_slice_nil (P := Try.prog) w 61 142 none 0 0 0 0 Try.underlying61
    clear h hlx hi hz0 hz1 hz2 h1
    go_enter Try.func74, Try.ntmps74
    go_wp2_with fail
    go_ret
    exact ⟨_, rfl, World.ownsRow_nil _ _ _ _, Below.refl _ _⟩
  · have hE := fun w => Lib.run_eql_slice_nil (P := Try.prog) w 61 142 (some ⟨g, 0, none⟩) n cap 0 0 Try.underlying61
    have hcells := World.ownsRow.cells h (g := g) rfl
    have HC : Bx (∀ w' : World, w'.heap[g]? = w.heap[g]? → ∀ j u, xs[j]? = some u → w'.cell? ((⟨g, 0, none⟩ : Addr).add j) = some u) := ⟨fun w' he j u hj => by
      have := hcells j u hj
      rw [addr_add] at this ⊢
      rw [← this]
      exact World.cell?_of_block (w := w) he⟩
    have HI0 := bx hi; have HI1 := bx hz0; have HI2 := bx hz1; have HI3 := bx hz2; have HLX := bx hlx; have H1 := bx h1; have HG := bx (blk_lt hh)
    have HO0 : Bx ((w.alloc (.cells #[] 142)).ownsRow w.heap.size 142 257 (.slice (some ⟨w.heap.size, 0, none⟩) 0 0) 0 []) := ⟨⟨rfl, .inr ⟨_, 0, _, rfl, Nat.le_refl _, blk_new w _, Nat.le_refl _, by decide, rfl, rfl⟩⟩⟩
    have hB : Bx (0 + n ≤ maxLen ∧ (0 + n) * 264 ≤ 140737488355328) := ⟨by simp only [maxLen]; omega, by omega⟩
    clear h hlx hi hz0 hz1 hz2 h1 hh hcells
    go_enter Try.func74, Try.ntmps74
    go_wp2_with (first
      | ((with_reducible refine at_call 7 ?_); go_must (refine wpList_append_own _ rfl (.tmp 5) (.tmp 6) 61 rfl w.heap.size 142 i0 _ 257 264 Try.underlying61 HI0.out HI1.out HI2.out HI3.out (by exact wCells_size zeros_ok) (by decide) (.slice (some ⟨w.heap.size, 0, none⟩) 0 0) 0 [] rfl HO0.out ⟨g, 0, none⟩ n cap xs rfl HLX.out (HC.out _ (Below.heap_alloc _ _ _ HG.out)) H1.out hB.out.1 hB.out.2 (by simp) ?_; intro v' w' q1 q2 _; have K1 := bx q1; have K2 := bx q2; clear q1 q2)))
    go_ret
    refine ⟨_, rfl, ?_, ((Below.refl w.heap.size w).alloc (Nat.le_refl _) (.cells #[] 142)).grown K2.out (by simp) (fun k hk => by cases hk; exact Nat.le_refl _)⟩
    have := K1.out
    rw [Nat.zero_add, List.nil_append] at this
    exact this
end Go.Proofs.Ythnommoljikaiaa
