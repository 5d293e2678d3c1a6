/- errors.Is between two errors of the numbered kind, and accept's Refused. -/
import Derived.Test.YthnommoljikaiaaRows
import Derived.Test.YthnommoljikaiaaAid
import Derived.LaidEql
import Derived.Stop.Asserts
import Derived.RowKitTokens
set_option linter.unusedSimpArgs false
set_option linter.unusedVariables false
namespace Go.Proofs.Ythnommoljikaiaa
open Go.RowKit Go.Extern.Stop Go.Stop Go.Extern

theorem run_equalIn_iface_int {P : Program} (d : Nat) {ti tn : TypeId} {ms : Array (String × TypeId)} {i : TypeInfo} {k : IntKind} (a b : Int)
    (hi : P.underlying ti = some (.interface ms)) (hn : P.underlying tn = some (.int k)) (hinfo : P.info? tn = some i) (hcomp : i.comparable = true) (w : World) :
    (Op.equalIn (d + 2) ti (.iface tn (.int k a)) (.iface tn (.int k b))).run P w = .ok (a == b) w := by
  simp [Op.equalIn, run_underlying hi, run_underlying hn, typeInfo, hinfo, hcomp]
theorem run_eql_iface_int {P : Program} {ti tn : TypeId} {ms : Array (String × TypeId)} {i : TypeInfo} {k : IntKind} (a b : Int)
    (hi : P.underlying ti = some (.interface ms)) (hn : P.underlying tn = some (.int k)) (hinfo : P.info? tn = some i) (hcomp : i.comparable = true) (w : World) :
    (binOp .eql ti (.iface tn (.int k a)) (.iface tn (.int k b))).run P w = .ok (.bool (a == b)) w := by
  simp only [binOp]
  simp [Op.equal, Op.maxDepth, run_equalIn_iface_int 9998 a b hi hn hinfo hcomp w]

theorem errTypeOf (v : Value) (w : World) : (Extern.ReflectliteType.typeOf #[.iface 24 v]).run Try.prog w = .ok (.iface 221 (.agg #[.pointer (some ⟨0, 24, none⟩)])) w := by kernel_rfl

theorem errMethod (v : Value) (w : World) : (Go.method 379 221 v "Comparable").run Try.prog w = .ok (150, v) w := by kernel_rfl
theorem errComparable (w : World) : ((Extern.ReflectliteType.method fun t => do Extern.Rtype.noPackHeld "Comparable" t; (fun a => Value.bool a.comparable) <$> typeInfo t) #[.agg #[.pointer (some ⟨0, 24, none⟩)]]).run Try.prog w = .ok (.bool true) w := by kernel_rfl
theorem errNoIs (v : Value) (xT : TypeId) (w : World) : (Instr.typeAssert (.iface 24 v) xT 223 true).run Try.prog w = .ok (.tuple #[.nilIface, .bool false]) w := run_typeAssert_lacksB Try.underlying223 (by kernel_rfl) (by kernel_rfl) v xT w
theorem errNoUnwrap (v : Value) (xT : TypeId) (w : World) : (Instr.typeAssert (.iface 24 v) xT 225 true).run Try.prog w = .ok (.tuple #[.nilIface, .bool false]) w := run_typeAssert_lacksB Try.underlying225 (by kernel_rfl) (by kernel_rfl) v xT w
theorem errNoUnwraps (v : Value) (xT : TypeId) (w : World) : (Instr.typeAssert (.iface 24 v) xT 227 true).run Try.prog w = .ok (.tuple #[.nilIface, .bool false]) w := run_typeAssert_lacksB Try.underlying227 (by kernel_rfl) (by kernel_rfl) v xT w
theorem errComp : (Try.prog.info? 24).map (·.comparable) = some true := by kernel_rfl
set_option maxRecDepth 100000 in
theorem is_int (a b : Int) (w : World) :
    Calls Try.prog 79 #[.iface 24 (.int .i64 a), .iface 24 (.int .i64 b)] w fun e w' => e = .returned (.bool (a == b)) ∧ w = w' := by
  have h8 := @run_callFunc_extern Try.prog 105 _ Extern.ReflectliteType.typeOf Try.func105 (by kernel_rfl) (by kernel_rfl) (by kernel_rfl) (by kernel_rfl)
  have h9 := @run_callFunc_extern Try.prog 150 _ (Extern.ReflectliteType.method fun t => do Extern.Rtype.noPackHeld "Comparable" t; pure (.bool (← typeInfo t).comparable)) Try.func150 (by kernel_rfl) (by kernel_rfl) (by kernel_rfl) (by kernel_rfl)
  have tT := errTypeOf
  have cT := errComparable
  have mR := errMethod
  have nE := errNoIs
  have uE := errNoUnwrap
  have vE := errNoUnwraps
  obtain ⟨i, hi, hcmp⟩ := Option.map_eq_some_iff.1 errComp
  have heq := fun w => run_eql_iface_int (P := Try.prog) a b Try.underlying168 Try.underlying24 hi hcmp w
  go_enter Try.func79, Try.ntmps79
  go_wp2
  refine wp_loop_rounds 1 ?_
  rw [rounds_succ]
  cases hab : a == b
  · simp only [hab] at heq
    have Hab := bx hab
    clear hab
    go_wp2
    go_ret
    exact ⟨by rw [Hab.out]; rfl, rfl⟩
  · simp only [hab] at heq
    have Hab := bx hab
    clear hab
    go_wp2
    go_ret
    exact ⟨by rw [Hab.out]; rfl, rfl⟩

def refused (c : Int) : Bool := c == 11 || c == 18 || c == 12
set_option maxRecDepth 100000 in
theorem refused_any (c : Int) (w : World) :
    Calls Try.prog 41 #[.iface 24 (.int .i64 c)] w fun e w' => e = .returned (.bool (refused c)) ∧ w = w' := by
  have i0 : ∀ w, (Instr.index 169 (.agg #[.int .i64 11, .int .i64 18, .int .i64 12]) (.int .i64 0)).run Try.prog w = .ok (.int .i64 11) w := fun _ => by kernel_rfl
  have i1 : ∀ w, (Instr.index 169 (.agg #[.int .i64 11, .int .i64 18, .int .i64 12]) (.int .i64 1)).run Try.prog w = .ok (.int .i64 18) w := fun _ => by kernel_rfl
  have i2 : ∀ w, (Instr.index 169 (.agg #[.int .i64 11, .int .i64 18, .int .i64 12]) (.int .i64 2)).run Try.prog w = .ok (.int .i64 12) w := fun _ => by kernel_rfl
  go_enter Try.func41, Try.ntmps41
  go_wp2
  refine wp_loop_rounds 4 ?_
  rw [rounds_succ]
  go_wp2_with fail
  refine (is_int c 11 w).mono ?_
  rintro e w' ⟨rfl, rfl⟩
  cases h1 : c == 11
  · have R : Bx (refused c = (c == 18 || c == 12)) := ⟨by simp [refused, h1]⟩
    clear h1
    go_wp2_with fail
    rw [rounds_succ]
    go_wp2_with fail
    refine (is_int c 18 w).mono ?_
    rintro e w' ⟨rfl, rfl⟩
    cases h2 : c == 18
    · have R2 : Bx (refused c = (c == 12)) := ⟨by rw [R.out, h2, Bool.false_or]⟩
      clear h2 R
      go_wp2_with fail
      rw [rounds_succ]
      go_wp2_with fail
      refine (is_int c 12 w).mono ?_
      rintro e w' ⟨rfl, rfl⟩
      cases h3 : c == 12
      · have R3 : Bx (refused c = false) := ⟨by rw [R2.out, h3]⟩
        clear h3 R2
        go_wp2_with fail
        rw [rounds_succ]
        go_wp2_with fail
        go_ret
        exact ⟨by rw [R3.out]; rfl, rfl⟩
      · have R3 : Bx (refused c = true) := ⟨by rw [R2.out, h3]⟩
        clear h3 R2
        go_wp2_with fail
        go_ret
        exact ⟨by rw [R3.out]; rfl, rfl⟩
    · have R2 : Bx (refused c = true) := ⟨by rw [R.out, h2, Bool.true_or]⟩
      clear h2 R
      go_wp2_with fail
      go_ret
      exact ⟨by rw [R2.out]; rfl, rfl⟩
  · have R : Bx (refused c = true) := ⟨by simp [refused, h1]⟩
    clear h1
    go_wp2_with fail
    go_ret
    exact ⟨by rw [R.out]; rfl, rfl⟩
end Go.Proofs.Ythnommoljikaiaa
