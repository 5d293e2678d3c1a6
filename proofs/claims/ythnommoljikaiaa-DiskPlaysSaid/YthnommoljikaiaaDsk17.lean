/- Disks by their states alone: what is kept under any steps. And a struct loaded out of memory that came in. -/
import Derived.Test.YthnommoljikaiaaDsk16
import Derived.Test.YthnommoljikaiaaOpenD
set_option linter.unusedSimpArgs false
set_option linter.unusedVariables false
namespace Go.Proofs.Ythnommoljikaiaa
open Go.RowKit

theorem settleOf_f {st : DSt} {x : Int} {b : List Int} {f : Int} {a : Int} (h : x ≠ a) : (settleOf st x b f).f a = st.f a := by
  rw [settleOf]
  split
  · rfl
  · show (if a = x then _ else _) = _
    exact if_neg (fun e => h e.symm)
theorem settleUp_f {st : DSt} {F : Nat → Int} {a : Int} (h : ∀ x ∈ st.und, x.1 ≠ a) : ∀ k, (settleUp st F k).f a = st.f a
  | 0 => rfl
  | k + 1 => by
    rw [settleUp]
    split
    · rename_i hk
      rw [settleOf_f (h _ (List.getElem_mem hk)), settleUp_f h k]
    · exact settleUp_f h k
/-- What a law keeps of a disk: its size, one sector's bytes, and that nothing is under way there. -/
def Keeps (n : Int) (a : Int) (p : List Int) (m : Nat) (st : DSt) : Prop := st.n = n ∧ st.f a = p ∧ (∀ x ∈ st.und, x.1 ≠ a) ∧ st.und.length ≤ m
theorem Keeps.more {n a : Int} {p : List Int} {m m' : Nat} {st : DSt} (h : Keeps n a p m st) (hm : m ≤ m') : Keeps n a p m' st := ⟨h.1, h.2.1, h.2.2.1, Nat.le_trans h.2.2.2 hm⟩
theorem Keeps.settled {n a : Int} {p : List Int} {m : Nat} {st : DSt} (h : Keeps n a p m st) (F : Nat → Int) : Keeps n a p 0 (settled st F) := by
  have hr := settleUp_rest st F st.und.length
  exact ⟨hr.2.1.trans h.1, (settleUp_f h.2.2.1 _).trans h.2.1, (fun x hx => by cases hx), Nat.zero_le _⟩
theorem Keeps.write {n a : Int} {p : List Int} {m : Nat} {st : DSt} (h : Keeps n a p m st) (i : Int) (bs : List Int) (hi : i ≠ a) : Keeps n a p (m + 1) (writeOf st i bs).1 := by
  unfold writeOf
  split
  · exact h.more (by omega)
  · split
    · exact h.more (by omega)
    · refine ⟨h.1, h.2.1, fun x hx => ?_, ?_⟩
      · rcases List.mem_append.1 hx with hx | hx
        · exact h.2.2.1 x hx
        · simp only [List.mem_singleton] at hx
          rw [hx]
          exact hi
      · show (st.und ++ [_]).length ≤ _
        rw [List.length_append]
        have := h.2.2.2
        simp only [List.length_singleton]
        omega
theorem Keeps.sync {n a : Int} {p : List Int} {m : Nat} {st : DSt} (h : Keeps n a p m st) : Keeps n a p m (syncOf st).1 := by
  unfold syncOf
  split
  · exact h
  · split
    · exact h
    · exact (Keeps.settled (st := { st with left := (callOf st.left st.down).1, down := (callOf st.left st.down).2.1 }) h _).more (Nat.zero_le _)
theorem Keeps.arm {n a : Int} {p : List Int} {m : Nat} {st : DSt} (h : Keeps n a p m st) (x : Int) : Keeps n a p m (armOf st x) := h
theorem Keeps.fall {n a : Int} {p : List Int} {m : Nat} {st : DSt} (h : Keeps n a p m st) (fs : List Int) : Keeps n a p 0 (fallOf st fs) := h.settled (fate fs)
theorem fallOf_down (st : DSt) (fs : List Int) : (fallOf st fs).down = false ∧ (fallOf st fs).und = [] := ⟨rfl, rfl⟩
theorem Keeps.read {n a : Int} {p : List Int} {m : Nat} {st : DSt} (h : Keeps n a p m st) (hd : st.down = false) (hu : st.und = []) (h0 : 0 ≤ a) (h1 : a < n) : readD st a = (p, 0) := by
  rw [read_up hd h0 (by rw [h.1]; exact h1), hu]
  show (readUp st a 0, (0 : Int)) = _
  exact congrArg (·, 0) h.2.1

theorem run_loadVar_cells {P : Program} (w : World) (g off : Nat) (ty : TypeId) (vs : List Value) (n : Nat) (d : TypeDesc) (hc : ∀ j v, vs[j]? = some v → w.cell? ⟨g, off + j, none⟩ = some v)
    (hu : P.underlying ty = some d) (hd : (match d with | .struct _ | .array _ _ => true | _ => false) = true) (hi : (P.info? ty).map (·.size) = some n) (hl : vs.length = n) :
    (loadVar ty ⟨g, off, none⟩).run P w = .ok (.agg vs.toArray) w := by
  have hl2 : (loadCells ⟨g, off, none⟩ vs.length).run P w = .ok vs.toArray w := run_loadCells_list (P := P) w ⟨g, off, none⟩ vs (fun j v hv => by rw [addr_add]; exact hc j v hv)
  rw [hl] at hl2
  cases hq : P.info? ty with
  | none => simp [hq] at hi
  | some i =>
    have hs : i.size = n := by simpa [hq] using hi
    have hagg : (isAgg ty).run P w = .ok true w := by
      unfold isAgg
      rw [Sem.run_bind, run_underlying hu w]
      cases d <;> simp_all
    simp [loadVar, Sem.run_bind, hagg, sizeOf, typeInfo, hq, hs, hl2]
/-- A struct is loaded, its cells known one by one. -/
theorem wpList_load_cells {P : Program} {ops : Array Oper} {rest : List Oper} {o : Oper} {a : Act} {w : World} {Q : Exit → Act → World → Prop} (hgd : Region.wanted o (yielded ops a.tmps) = true) (ty : TypeId) (x : Operand) (ho : o.op = .load ty x)
    (g off : Nat) (hx : a.eval x = .pointer (some ⟨g, off, none⟩)) (vs : List Value) (n : Nat) (d : TypeDesc) (hc : ∀ j v, vs[j]? = some v → w.cell? ⟨g, off + j, none⟩ = some v)
    (hu : P.underlying ty = some d) (hd : (match d with | .struct _ | .array _ _ => true | _ => false) = true) (hi : (P.info? ty).map (·.size) = some n) (hl : vs.length = n)
    (h : wpList P ops Q rest (a.put o.dst (.agg vs.toArray)) w) : wpList P ops Q (o :: rest) a w :=
  wpList_want hgd fun K hK => by
    unfold Oper.wp execOp
    simp only [ho, hx, Instr.loadAt, Instr.sureAddr, Sem.run_bind, Sem.run_pure, Result.andThen_ok, run_loadVar_cells w g off ty vs n d hc hu hd hi hl]
    exact hK _ _ h
theorem actInfo : (Try.prog.info? 45).map (·.size) = some 4 := by kernel_rfl
def actZero : Array Value := #[.int .i64 0, .int .i64 0, .slice none 0 0, .slice none 0 0]
theorem act_one (a : ActV) : ∀ v ∈ a.cells.toArray.toList, v.oneCell' = true := by
  intro v hv
  simp only [ActV.cells, List.mem_cons, List.not_mem_nil, or_false] at hv
  rcases hv with rfl | rfl | rfl | rfl <;> rfl
end Go.Proofs.Ythnommoljikaiaa
