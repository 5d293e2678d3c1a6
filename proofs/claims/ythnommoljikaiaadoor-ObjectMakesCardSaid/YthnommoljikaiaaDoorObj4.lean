/- Objects: a map whose keys are names of objects. -/
import Derived.Test.YthnommoljikaiaaDoorObj3
import Derived.Test.YthnommoljikaiaaDoorMap1
import Derived.WideKeyRuns
set_option linter.unusedSimpArgs false
set_option linter.unusedVariables false
namespace Go.Proofs.YthnommoljikaiaaDoor
open Go.RowKit Go.MapKept

theorem thirtytwo (l : List Int) (h : l.length = 32) : ∃ a0 a1 a2 a3 a4 a5 a6 a7 a8 a9 a10 a11 a12 a13 a14 a15 b0 b1 b2 b3 b4 b5 b6 b7 b8 b9 b10 b11 b12 b13 b14 b15, l = [a0, a1, a2, a3, a4, a5, a6, a7, a8, a9, a10, a11, a12, a13, a14, a15, b0, b1, b2, b3, b4, b5, b6, b7, b8, b9, b10, b11, b12, b13, b14, b15] := by
  match l, h with
  | [a0, a1, a2, a3, a4, a5, a6, a7, a8, a9, a10, a11, a12, a13, a14, a15, b0, b1, b2, b3, b4, b5, b6, b7, b8, b9, b10, b11, b12, b13, b14, b15], _ => exact ⟨_, _, _, _, _, _, _, _, _, _, _, _, _, _, _, _, _, _, _, _, _, _, _, _, _, _, _, _, _, _, _, _, rfl⟩
theorem key_ok (em : Bool) (x : List Int) (h : x.length = 32) (w : World) : (Instr.checkKey em 10000 32 (.agg (ints .u8 x))).run Tryd.prog w = .ok () w := by
  obtain ⟨a0, a1, a2, a3, a4, a5, a6, a7, a8, a9, a10, a11, a12, a13, a14, a15, b0, b1, b2, b3, b4, b5, b6, b7, b8, b9, b10, b11, b12, b13, b14, b15, rfl⟩ := thirtytwo x h
  kernel_rfl
/-- Block b is a set of names of objects. -/
def MapA (w : World) (b : Nat) (ids : List (List Int)) : Prop := ∃ es clock, w.heap[b]? = some (.map es clock) ∧ es.toList.map (·.key) = ids.map (fun x => Value.agg (ints .u8 x)) ∧ (∀ e ∈ es.toList, e.val = .bool true) ∧ ∀ x ∈ ids, x.length = 32
theorem MapA.same {w w' : World} {b : Nat} {ids : List (List Int)} (h : MapA w b ids) (he : w'.heap[b]? = w.heap[b]?) : MapA w' b ids := by
  obtain ⟨es, c, h, h2⟩ := h
  exact ⟨es, c, by rw [he, h], h2⟩
theorem MapA.lt {w : World} {b : Nat} {ids : List (List Int)} (h : MapA w b ids) : b < w.heap.size := by
  obtain ⟨es, c, h, _⟩ := h
  exact blk_lt h
theorem mapA_made (w : World) : MapA (w.alloc (.map #[] 0)) w.heap.size [] := ⟨#[], 0, blk_new w _, rfl, by simp, by simp⟩
set_option maxRecDepth 100000 in
theorem find_ask (x : List Int) (hx : x.length = 32) (w : World) : ∀ (ids : List (List Int)) (es : List MapEntry) (i : Nat), es.map (·.key) = ids.map (fun x => Value.agg (ints .u8 x)) → (∀ e ∈ es, e.val = .bool true) → (∀ y ∈ ids, y.length = 32) →
    ∃ j, (Instr.findAsking 32 (.agg (ints .u8 x)) es i).run Tryd.prog w = .ok (if x ∈ ids then some (j, .bool true) else none) w
  | [], [], i, _, _, _ => ⟨0, by simp [Instr.findAsking]⟩
  | [], e :: es, i, h, _, _ => by simp at h
  | y :: ids, [], i, h, _, _ => by simp at h
  | y :: ids, e :: es, i, h, hv, hl => by
    simp only [List.map_cons, List.cons.injEq] at h
    have e1 : (Op.equal 32 (.agg (ints .u8 x)) e.key).run Tryd.prog w = .ok (decide (x = y)) w := by
      rw [h.1]
      change (Op.equalIn 10000 32 (.agg (ints .u8 x)) (.agg (ints .u8 y))).run Tryd.prog w = _
      exact eq_ints Tryd.underlying32 Tryd.underlying5 (by kernel_rfl) 9998 x y hx (hl y (by simp)) w
    by_cases hxy : x = y
    · refine ⟨i, ?_⟩
      rw [decide_eq_true hxy] at e1
      rw [Instr.findAsking, if_pos (show x ∈ y :: ids by rw [hxy]; exact List.mem_cons_self ..)]
      simp only [Sem.run_bind, e1, Result.andThen_ok, if_true, hv e (by simp)]
      rfl
    · obtain ⟨j, hj⟩ := find_ask x hx w ids es (i + 1) h.2 (fun a ha => hv a (by simp [ha])) (fun a ha => hl a (by simp [ha]))
      refine ⟨j, ?_⟩
      rw [Instr.findAsking]
      simp only [Sem.run_bind, e1, Result.andThen_ok, hxy, decide_false, Bool.false_eq_true, if_false, List.mem_cons, false_or]
      exact hj
theorem find_key (x : List Int) (hx : x.length = 32) (w : World) (ids : List (List Int)) (es : List MapEntry) (h : es.map (·.key) = ids.map (fun x => Value.agg (ints .u8 x))) (hv : ∀ e ∈ es, e.val = .bool true) (hl : ∀ y ∈ ids, y.length = 32) :
    ∃ j, (Instr.findKey 32 (.agg (ints .u8 x)) es).run Tryd.prog w = .ok (if x ∈ ids then some (j, .bool true) else none) w := by
  obtain ⟨j, hj⟩ := find_ask x hx w ids es 0 h hv hl
  refine ⟨j, ?_⟩
  exact (run_findKey_eq w (by rw [Tryd.underlying32]) _ _).trans hj
theorem mapA_lookup {w : World} {b : Nat} {ids : List (List Int)} (h : MapA w b ids) (x : List Int) (hx : x.length = 32) :
    (Instr.lookup 95 (.map (some b)) (.agg (ints .u8 x)) false).run Tryd.prog w = .ok (.bool (decide (x ∈ ids))) w := by
  obtain ⟨es, clock, hb, hk, hv, hl⟩ := h
  obtain ⟨j, hj⟩ := find_key x hx w ids es.toList hk hv hl
  have hz : (zeroValue 4).run Tryd.prog w = .ok (.bool false) w := by kernel_rfl
  have hc := key_ok es.isEmpty x hx w
  by_cases hm : x ∈ ids
  · rw [if_pos hm] at hj
    simp only [Instr.lookup, Sem.run_bind, run_underlying Tryd.underlying95, Result.andThen_ok, MapKept.run_getObj_map hb, Sem.run_pure, hc, hj, hm, decide_true]
    rfl
  · rw [if_neg hm] at hj
    simp only [Instr.lookup, Sem.run_bind, run_underlying Tryd.underlying95, Result.andThen_ok, MapKept.run_getObj_map hb, Sem.run_pure, hc, hj, hm, hz, decide_false]
    rfl
theorem mapA_push {w : World} {b : Nat} {ids : List (List Int)} (h : MapA w b ids) (x : List Int) (hx : x.length = 32) (hn : x ∉ ids) :
    ∃ w' o, (Instr.mapUpdate 95 (.map (some b)) (.agg (ints .u8 x)) (.bool true)).run Tryd.prog w = .ok () w' ∧ Upd w w' b o ∧ MapA w' b (ids ++ [x]) := by
  obtain ⟨es, clock, hb, hk, hv, hl⟩ := h
  obtain ⟨j, hj⟩ := find_key x hx w ids es.toList hk hv hl
  rw [if_neg hn] at hj
  have hc := key_ok false x hx w
  refine ⟨setB w b (.map (es.push ⟨.agg (ints .u8 x), .bool true, clock⟩) (clock + 1)), .map (es.push ⟨.agg (ints .u8 x), .bool true, clock⟩) (clock + 1), ?_, upd_setB hb _, ?_⟩
  · simp only [Instr.mapUpdate, Sem.run_bind, run_underlying Tryd.underlying95, Result.andThen_ok, MapKept.run_getObj_map hb, hc, hj]
    simp [MapKept.run_setObj_map _ hb, setB]
  · refine ⟨_, _, (upd_setB hb _).same, by simp [hk], fun e he => ?_, fun y hy => ?_⟩
    · simp only [Array.toList_push, List.mem_append, List.mem_singleton] at he
      rcases he with he | rfl
      · exact hv e he
      · rfl
    · rcases List.mem_append.1 hy with h | h
      · exact hl y h
      · rw [List.mem_singleton.1 h]; exact hx
end Go.Proofs.YthnommoljikaiaaDoor
