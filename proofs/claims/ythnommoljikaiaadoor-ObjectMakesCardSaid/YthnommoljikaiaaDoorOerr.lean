/- errors.Is between two errors of the numbered kind. -/
import Derived.Test.YthnommoljikaiaaDoorBuf1
import Derived.LaidEql
import Derived.Stop.Asserts
import Derived.RowKitTokens
set_option linter.unusedSimpArgs false
set_option linter.unusedVariables false
namespace Go.Proofs.YthnommoljikaiaaDoor
open Go.RowKit Go.Extern.Stop Go.Stop Go.Extern

theorem run_equalIn_iface_int {P : Program} (d : Nat) {ti tn : TypeId} {ms : Array (String × TypeId)} {i : TypeInfo} {k : IntKind} (a b : Int)
    (hi : P.underlying ti = some (.interface ms)) (hn : P.underlying tn = some (.int k)) (hinfo : P.info? tn = some i) (hcomp : i.comparable = true) (w : World) :
    (Op.equalIn (d + 2) ti (.iface tn (.int k a)) (.iface tn (.int k b))).run P w = .ok (a == b) w := by
  simp [Op.equalIn, run_underlying hi, run_underlying hn, typeInfo, hinfo, hcomp]
theorem run_eql_iface_int {P : Program} {ti tn : TypeId} {ms : Array (String × TypeId)} {i : TypeInfo} {k : IntKind} (a b : Int)
    (hi : P.underlying ti = some (.interface ms)) (hn : P.underlying tn = some (.int k)) (hinfo : P.info? tn = some i) (hcomp : i.comparable = true) (w : World) :
    (binOp .eql ti (.iface tn (.int k a)) (.iface tn (.int k b))).run P w = .ok (.bool (a == b)) w := by
  simp only [binOp]
  simp [Op.equal, Op.maxDepth, run_equalIn_iface_int 9998 a b hi hn hinfo hcomp w]
theorem errTypeOf (v : Value) (w : World) : (Extern.ReflectliteType.typeOf #[.iface 44 v]).run Tryd.prog w = .ok (.iface 148 (.agg #[.pointer (some ⟨3, 44, none⟩)])) w := by kernel_rfl
theorem errMethod (n : Nat) (v : Value) (w : World) : (Go.method (n + 1) 148 v "Comparable").run Tryd.prog w = .ok (129, v) w := by kernel_rfl
theorem errComparable (w : World) : ((Extern.ReflectliteType.method fun t => do Extern.Rtype.noPackHeld "Comparable" t; (fun a => Value.bool a.comparable) <$> typeInfo t) #[.agg #[.pointer (some ⟨3, 44, none⟩)]]).run Tryd.prog w = .ok (.bool true) w := by kernel_rfl
theorem errNoIs (v : Value) (xT : TypeId) (w : World) : (Instr.typeAssert (.iface 44 v) xT 150 true).run Tryd.prog w = .ok (.tuple #[.nilIface, .bool false]) w := run_typeAssert_lacksB Tryd.underlying150 (by kernel_rfl) (by kernel_rfl) v xT w
theorem errNoUnwrap (v : Value) (xT : TypeId) (w : World) : (Instr.typeAssert (.iface 44 v) xT 153 true).run Tryd.prog w = .ok (.tuple #[.nilIface, .bool false]) w := run_typeAssert_lacksB Tryd.underlying153 (by kernel_rfl) (by kernel_rfl) v xT w
theorem errNoUnwraps (v : Value) (xT : TypeId) (w : World) : (Instr.typeAssert (.iface 44 v) xT 155 true).run Tryd.prog w = .ok (.tuple #[.nilIface, .bool false]) w := run_typeAssert_lacksB Tryd.underlying155 (by kernel_rfl) (by kernel_rfl) v xT w
theorem errComp : (Tryd.prog.info? 44).map (·.comparable) = some true := by kernel_rfl
set_option maxRecDepth 100000 in
theorem is_int (a b : Int) (w : World) :
    Calls Tryd.prog 81 #[.iface 44 (.int .i64 a), .iface 44 (.int .i64 b)] w fun e w' => e = .returned (.bool (a == b)) ∧ w = w' := by
  have h8 := @run_callFunc_extern Tryd.prog 91 _ Extern.ReflectliteType.typeOf Tryd.func91 (by kernel_rfl) (by kernel_rfl) (by kernel_rfl) (by kernel_rfl)
  have h9 := @run_callFunc_extern Tryd.prog 129 _ (Extern.ReflectliteType.method fun t => do Extern.Rtype.noPackHeld "Comparable" t; pure (.bool (← typeInfo t).comparable)) Tryd.func129 (by kernel_rfl) (by kernel_rfl) (by kernel_rfl) (by kernel_rfl)
  have tT := errTypeOf
  have cT := errComparable
  have mR := errMethod
  have nE := errNoIs
  have uE := errNoUnwrap
  have vE := errNoUnwraps
  obtain ⟨i, hi, hcmp⟩ := Option.map_eq_some_iff.1 errComp
  have heq := fun w => run_eql_iface_int (P := Tryd.prog) a b Tryd.underlying114 Tryd.underlying44 hi hcmp w
  go_enter Tryd.func81, Tryd.ntmps81
  go_wp2
  refine wp_loop_rounds 1 ?_
  rw [rounds_succ]
  cases hab : a == b
  · simp only [hab] at heq
    have Hab := bx hab
    clear hab
    go_wp2
    go_ret
    exact ⟨by rw [Hab.out]; rfl, rfl⟩
  · simp only [hab] at heq
    have Hab := bx hab
    clear hab
    go_wp2
    go_ret
    exact ⟨by rw [Hab.out]; rfl, rfl⟩
end Go.Proofs.YthnommoljikaiaaDoor
