/- AcceptTells: aids of the law. -/
import Derived.Test.YthnommoljikaiaaTel3
import Derived.Test.YthnommoljikaiaaFrm6
set_option linter.unusedSimpArgs false
set_option linter.unusedVariables false
namespace Go.Proofs.Ythnommoljikaiaa
open Go.RowKit

theorem be_num8 {l : List Int} (h : IsB l) (hl : l.length = 8) : be (num l) 8 = l := by
  match l, hl with
  | [a0, a1, a2, a3, a4, a5, a6, a7], _ =>
    have b0 := h 0; have b1 := h 1; have b2 := h 2; have b3 := h 3; have b4 := h 4; have b5 := h 5; have b6 := h 6; have b7 := h 7
    simp only [List.getD_eq_getElem?_getD, List.getElem?_cons_zero, List.getElem?_cons_succ, Option.getD_some] at b0 b1 b2 b3 b4 b5 b6 b7
    clear h
    simp only [be, num, List.foldl_cons, List.foldl_nil, Nat.reduceMul, Int.reducePow, List.cons.injEq, and_true]
    refine ⟨?_, ?_, ?_, ?_, ?_, ?_, ?_, ?_⟩ <;> omega
theorem quietAt_build {P : Program} {o : Oper} {a : Act} {C : World → Prop} {w : World} (t : TypeId) (parts : List (Nat × Operand)) (ho : o.op = .build t parts.toArray)
    (vals : List (Nat × Value)) (hvals : (parts.map fun p => (p.1, a.eval p.2)) = vals) (vs : Array Value) (hv : P.built t vals = some vs) : o.quietAt P a C w (.agg vs) := by
  subst hvals
  unfold Oper.quietAt execOp
  simp only [ho, Sem.run_bind, run_build w t _ vs (by rw [Array.toList_map]; exact hv), Result.andThen_ok]
  exact ⟨rfl, rfl⟩
/-- A pin put, and read. -/
theorem readPin_put (p : Pin) (hs : p.s.length = 32) (hg : 0 ≤ p.g ∧ p.g < 18446744073709551616) (he : 0 ≤ p.e ∧ p.e < 18446744073709551616) : readPin (be p.g 8 ++ be p.e 8 ++ p.s) = (p, 0) := by
  have hl : (be p.g 8 ++ be p.e 8 ++ p.s).length = 48 := by simp [be_length, hs]
  have l1 := be_length p.g 8
  have l2 := be_length p.e 8
  have e1 : (be p.g 8 ++ be p.e 8 ++ p.s).take 8 = be p.g 8 := by rw [List.append_assoc, List.take_append_of_le_length (by omega), List.take_of_length_le (by omega)]
  have e2 : (be p.g 8 ++ be p.e 8 ++ p.s).drop 8 = be p.e 8 ++ p.s := by rw [List.append_assoc, List.drop_append_of_le_length (by omega), List.drop_of_length_le (by omega), List.nil_append]
  have e3 : (be p.e 8 ++ p.s).take 8 = be p.e 8 := by rw [List.take_append_of_le_length (by omega), List.take_of_length_le (by omega)]
  have e4 : (be p.e 8 ++ p.s).drop 8 = p.s := by rw [List.drop_append_of_le_length (by omega), List.drop_of_length_le (by omega), List.nil_append]
  have e5 : (be p.g 8 ++ be p.e 8 ++ p.s).drop 16 = p.s := by rw [show 16 = 8 + 8 by rfl, ← List.drop_drop, e2, e4]
  rw [readPin, if_pos hl, e1, e2, e3, e5, List.take_of_length_le (by omega), num_be8 hg.1 hg.2, num_be8 he.1 he.2]
/-- A pin read, and put. -/
theorem put_readPin (bs : List Int) (hB : IsB bs) (hl : bs.length = 48) : be (readPin bs).1.g 8 ++ be (readPin bs).1.e 8 ++ (readPin bs).1.s = bs := by
  rw [readPin, if_pos hl]
  dsimp only
  rw [be_num8 (isB_take hB 8) (by rw [List.length_take]; omega), be_num8 (isB_take (isB_drop hB 8) 8) (by rw [List.length_take, List.length_drop]; omega), List.take_of_length_le (l := bs.drop 16) (by rw [List.length_drop]; omega)]
  have : (bs.drop 8).take 8 ++ bs.drop 16 = bs.drop 8 := by rw [show bs.drop 16 = (bs.drop 8).drop 8 by rw [List.drop_drop], List.take_append_drop]
  rw [List.append_assoc, this, List.take_append_drop]
theorem readPin_s (bs : List Int) : (readPin bs).1.s.length = 32 := by
  unfold readPin
  split
  · rw [List.length_take, List.length_drop]; omega
  · rfl
theorem readPin_code (bs : List Int) : (readPin bs).2 = if bs.length = 48 then 0 else 11 := by
  unfold readPin
  split <;> rfl
theorem readPin_u64 (bs : List Int) (hB : IsB bs) : (0 ≤ (readPin bs).1.g ∧ (readPin bs).1.g < 18446744073709551616) ∧ (0 ≤ (readPin bs).1.e ∧ (readPin bs).1.e < 18446744073709551616) := by
  unfold readPin
  split
  · exact ⟨num_lt _ (isB_take hB 8) 8 (by rw [List.length_take]; omega), num_lt _ (isB_take (isB_drop hB 8) 8) 8 (by rw [List.length_take]; omega)⟩
  · exact ⟨⟨by decide, by decide⟩, ⟨by decide, by decide⟩⟩
theorem own_neq (g e : Int) (s : ByteArray) (w : World) : (binOp .neq 94 (.agg (ownCells g e s)) (.agg (ownCells g e s))).run Try.prog w = .ok (.bool false) w := by
  have h : (Op.equalIn 10000 94 (.agg (ownCells g e s)) (.agg (ownCells g e s))).run Try.prog w = .ok ((g == g) && ((e == e) && ((s.toList == s.toList) && true))) w := by
    rw [eqIn_struct Try.underlying94 Try.stoodInHeld94 9999]
    refine eqf_step (by decide) (part_int Try.underlying65 rfl w) (part_int Try.underlying65 rfl w) (run_equalIn_int w 9998 _ _ _ g g Try.underlying65) ?_
    refine eqf_step (by decide) (part_int Try.underlying65 rfl w) (part_int Try.underlying65 rfl w) (run_equalIn_int w 9998 _ _ _ e e Try.underlying65) ?_
    exact eqf_step (by decide) (part_str Try.underlying9 rfl w) (part_str Try.underlying9 rfl w) (run_equalIn_string w 9998 _ s s Try.underlying9) eqf_nil
  rw [run_neq_struct, h]
  simp
theorem pin_neq_self (g e : Int) (s : List Int) (hs : s.length = 32) (w : World) : (binOp .neq 84 (.agg (pinCells g e s)) (.agg (pinCells g e s))).run Try.prog w = .ok (.bool false) w := by
  have h := pin_neq ⟨g, e, s⟩ ⟨g, e, s⟩ hs hs w
  simpa [Pin.val] using h
set_option maxRecDepth 100000 in
theorem is_nil (b : Int) (w : World) :
    Calls Try.prog 79 #[.nilIface, .iface 24 (.int .i64 b)] w fun e w' => e = .returned (.bool false) ∧ w = w' := by
  have q0 : ∀ w, (binOp .eql 168 .nilIface .nilIface).run Try.prog w = .ok (.bool true) w := fun _ => by kernel_rfl
  have q1 : ∀ w, (binOp .eql 168 .nilIface (.iface 24 (.int .i64 b))).run Try.prog w = .ok (.bool false) w := fun _ => by kernel_rfl
  go_enter Try.func79, Try.ntmps79
  go_wp2
  go_ret
  exact ⟨rfl, rfl⟩
set_option maxRecDepth 100000 in
theorem refused_nil (w : World) : Calls Try.prog 41 #[.nilIface] w fun e w' => e = .returned (.bool false) ∧ w = w' := by
  have i0 : ∀ w, (Instr.index 169 (.agg #[.int .i64 11, .int .i64 18, .int .i64 12]) (.int .i64 0)).run Try.prog w = .ok (.int .i64 11) w := fun _ => by kernel_rfl
  have i1 : ∀ w, (Instr.index 169 (.agg #[.int .i64 11, .int .i64 18, .int .i64 12]) (.int .i64 1)).run Try.prog w = .ok (.int .i64 18) w := fun _ => by kernel_rfl
  have i2 : ∀ w, (Instr.index 169 (.agg #[.int .i64 11, .int .i64 18, .int .i64 12]) (.int .i64 2)).run Try.prog w = .ok (.int .i64 12) w := fun _ => by kernel_rfl
  go_enter Try.func41, Try.ntmps41
  go_wp2
  refine wp_loop_rounds 4 ?_
  rw [rounds_succ]
  go_wp2_with fail
  refine (is_nil 11 w).mono ?_
  rintro e w' ⟨rfl, rfl⟩
  go_wp2_with fail
  rw [rounds_succ]
  go_wp2_with fail
  refine (is_nil 18 w).mono ?_
  rintro e w' ⟨rfl, rfl⟩
  go_wp2_with fail
  rw [rounds_succ]
  go_wp2_with fail
  refine (is_nil 12 w).mono ?_
  rintro e w' ⟨rfl, rfl⟩
  go_wp2_with fail
  rw [rounds_succ]
  go_wp2_with fail
  go_ret
  exact ⟨rfl, rfl⟩
end Go.Proofs.Ythnommoljikaiaa
