/- Objects: what they are made of; text, fit. -/
import Derived.Test.YthnommoljikaiaaDoorOrow
import Derived.Test.YthnommoljikaiaaDoorOref
import Derived.Test.YthnommoljikaiaaDoorNam6
import Derived.Lib.ConvBytes
set_option linter.unusedSimpArgs false
set_option linter.unusedVariables false
namespace Go.Proofs.YthnommoljikaiaaDoor
open Go.RowKit

/-- A text as bytes: a row of its own. -/
theorem conv_str (s : ByteArray) (w : World) : ∃ w' c, (convert 9 41 (.string s)).run Tryd.prog w = .ok (.slice (some ⟨w.heap.size, 0, none⟩) s.size c) w' ∧ RdB w' (some ⟨w.heap.size, 0, none⟩) s.size (bytesOf s) ∧ s.size ≤ c ∧ Below w.heap.size w w' := by
  refine ⟨_, _, Lib.run_convert_string_bytes w 9 41 5 s Tryd.underlying9 Tryd.underlying41 Tryd.underlying5, ⟨bytesOf_length s, fun _ => ⟨_, 0, rfl, ?_, fun j hj => ?_⟩⟩, ?_, ?_⟩
  · rw [Lib.bytesWorld_size]; omega
  · rw [Nat.zero_add, Lib.bytesWorld_cell w _ s j hj]
    simp only [bytesOf, List.getD_eq_getElem?_getD, List.getElem?_map]
    have h' : j < s.data.toList.length := by simpa using hj
    rw [List.getElem?_eq_getElem h']
    rfl
  · have := grownCap_ge w s.size 0 5
    omega
  · exact ⟨rfl, rfl, rfl, by rw [Lib.bytesWorld_size]; omega, fun k hk => Lib.bytesWorld_at_old w _ s k hk⟩
/-- A text, cut off behind where it is too long, with its length ahead. -/
def textB (s : ByteArray) : List Int := be ((min s.size 16385 : Nat) : Int) 4 ++ (bytesOf s).take (min s.size 16385)
theorem bytesOf_ext (s : ByteArray) (m : Nat) (h : m ≤ s.size) : bytesOf (s.extract 0 m) = (bytesOf s).take m := by
  simp [bytesOf, ByteArray.data_extract, Array.toList_extract, List.extract_eq_take_drop]
set_option maxRecDepth 100000 in
set_option maxHeartbeats 400000 in
theorem text_any (A : Option Addr) (n cap : Nat) (bs : List Int) (s : ByteArray) (w : World) (hrd : RdB w A n bs) (hnil : A = none → cap = 0) (hn : n ≤ 1048576) :
    Calls Tryd.prog 51 #[.slice A n cap, .string s] w fun e w' => ∃ r, e = .returned r ∧ OwB w' w.heap.size r (bs ++ textB s) ∧ Below w.heap.size w w' := by
  obtain ⟨m, hm⟩ : ∃ m, min s.size 16385 = m := ⟨_, rfl⟩
  have hms : m ≤ s.size := by omega
  have hmin : min (s.size : Int) 16385 = m := by omega
  have hm1 : (m : Int) ≤ s.size := by omega
  have hm2 : m ≤ 16385 := by omega
  have hsz : (s.extract 0 m).size = m := by simp; omega
  obtain ⟨w5, c5, hcv, hr5, hc5, hb5⟩ := conv_str (s.extract 0 m) w
  rw [hsz] at hcv hr5
  rw [bytesOf_ext s m hms] at hr5
  have HT : Bx (textB s = be m 4 ++ (bytesOf s).take m) := ⟨by rw [textB, hm]⟩
  have HR := bx (hrd.below hb5); have HR5 := bx hr5; have HN := bx hnil; have B5 := bx hb5
  have HM := bx hm
  clear hm hrd hr5 hnil hc5 hb5 hsz
  go_enter Tryd.func51, Tryd.ntmps51
  go_wp2_with fail
  refine (sized_any A n cap bs _ m c5 _ w5 HR.out HN.out HR5.out (fun h => by cases h) (by omega) (by omega)).mono ?_
  rintro e w6 ⟨r, rfl, ho, hb⟩
  have O6 := bx (ho.base_le B5.out.size); have B6 := bx (B5.out.trans (hb.mono B5.out.size))
  clear ho hb
  go_wp2_with fail
  go_ret
  exact ⟨_, rfl, by rw [HT.out, ← List.append_assoc]; exact O6.out, B6.out⟩
/-- What fit tells. -/
def fitO (kind : Int) (d : List Int) : Int × List Int × Int := if 16384 < d.length then (0, [], 3) else (kind, d, 0)
def objC (k : Int) (v : Value) : Array Value := #[.int .i64 k, v]
/-- An object, and what is wrong, that are told. -/
def ObjO (w : World) (r : Int × List Int × Int) (e : Ending) (w' : World) : Prop := ∃ A c, e = .returned (.tuple #[.agg (objC r.1 (.slice A r.2.1.length c)), .int .i64 r.2.2]) ∧ RdB w' A r.2.1.length r.2.1 ∧ (A = none → c = 0) ∧ r.2.1.length ≤ c ∧ Below w.heap.size w w'
theorem obj_built (k : Int) (A : Option Addr) (n c : Nat) : Tryd.prog.built 43 [(0, .int .i64 k), (1, .slice A n c)] = some (objC k (.slice A n c)) := by kernel_rfl
theorem obj_built0 : Tryd.prog.built 43 [] = some (objC 0 (.slice none 0 0)) := by kernel_rfl
theorem obj_is (k : Int) (A : Option Addr) (n c : Nat) : (Tryd.prog.info? 43).map (·.size) = some (objC k (.slice A n c)).size := by kernel_rfl
theorem obj_one (k : Int) (A : Option Addr) (n c : Nat) : ∀ v ∈ (objC k (.slice A n c)).toList, v.oneCell' = true := by
  intro v hv
  simp only [objC, List.mem_cons, List.not_mem_nil, or_false] at hv
  rcases hv with rfl | rfl <;> rfl
set_option maxRecDepth 100000 in
set_option maxHeartbeats 400000 in
theorem fit_big (k : Int) (A : Option Addr) (n cap : Nat) (w : World) (hb : 16384 < n) :
    Calls Tryd.prog 52 #[.int .i64 k, .slice A n cap] w fun e w' => e = .returned (.tuple #[.agg (objC 0 (.slice none 0 0)), .int .i64 3]) ∧ Below w.heap.size w w' := by
  obtain ⟨w0, hw0⟩ : ∃ w0, w0 = w.alloc (.cells (objC 0 (.slice none 0 0)) 43) := ⟨_, rfl⟩
  have K0 : Bx (w0.heap[w.heap.size]? = some (.cells (objC 0 (.slice none 0 0)) 43 (0, 0))) := ⟨by rw [hw0]; exact blk_new w _⟩
  have LIT : Bx (w.alloc (.cells #[.int .i64 0, .slice none 0 0] 43) = w0) := ⟨hw0.symm⟩
  have B0 : Bx (Below w.heap.size w w0) := ⟨by rw [hw0]; exact (Below.refl _ _).alloc (Nat.le_refl _) _⟩
  clear hw0
  have hb' : (16384 : Int) < n := by omega
  go_enter Tryd.func52, Tryd.ntmps52
  go_upto_region 1 with fail
  rw [LIT.out]
  clear LIT
  go_wp2_with (first
    | ((with_reducible refine at_build 9 ?_); go_must (refine wpList_build2 rfl 43 [] rfl [] rfl (objC 0 (.slice none 0 0)) obj_built0 ?_))
    | ((with_reducible refine at_store (.tmp 4) (.tmp 9) ?_); go_must (refine store_all (cs := objC 0 (.slice none 0 0)) 43 (.tmp 4) (.tmp 9) rfl rfl rfl rfl K0.out (obj_is _ _ _ _) rfl (obj_one _ _ _ _) ?_; intro w9 hu9; have B9 := bx (B0.out.trans (hu9.below (Nat.le_refl _))); have R9 := bx hu9.same; clear hu9)))
  refine bodyPost_ret (results_ct (cs := objC 0 (.slice none 0 0)) rfl _ _ w.heap.size 43 _ _ rfl rfl R9.out Tryd.underlying43 rfl (obj_is _ _ _ _)) rfl ?_
  exact ⟨rfl, B9.out⟩
set_option maxRecDepth 100000 in
set_option maxHeartbeats 400000 in
theorem fit_ok (k : Int) (A : Option Addr) (n cap : Nat) (w : World) (hb : n ≤ 16384) :
    Calls Tryd.prog 52 #[.int .i64 k, .slice A n cap] w fun e w' => e = .returned (.tuple #[.agg (objC k (.slice A n cap)), .int .i64 0]) ∧ Below w.heap.size w w' := by
  obtain ⟨w0, hw0⟩ : ∃ w0, w0 = w.alloc (.cells (objC 0 (.slice none 0 0)) 43) := ⟨_, rfl⟩
  have K0 : Bx (w0.heap[w.heap.size]? = some (.cells (objC 0 (.slice none 0 0)) 43 (0, 0))) := ⟨by rw [hw0]; exact blk_new w _⟩
  have LIT : Bx (w.alloc (.cells #[.int .i64 0, .slice none 0 0] 43) = w0) := ⟨hw0.symm⟩
  have B0 : Bx (Below w.heap.size w w0) := ⟨by rw [hw0]; exact (Below.refl _ _).alloc (Nat.le_refl _) _⟩
  clear hw0
  have hb' : ¬ (16384 : Int) < n := by omega
  go_enter Tryd.func52, Tryd.ntmps52
  go_upto_region 1 with fail
  rw [LIT.out]
  clear LIT
  go_wp2_with (first
    | ((with_reducible refine at_build 12 ?_); go_must (refine wpList_build2 rfl 43 [(0, .tmp 10), (1, .tmp 11)] rfl _ rfl (objC k (.slice A n cap)) (obj_built k A n cap) ?_))
    | ((with_reducible refine at_store (.tmp 4) (.tmp 12) ?_); go_must (refine store_all (cs := objC k (.slice A n cap)) 43 (.tmp 4) (.tmp 12) rfl rfl rfl rfl K0.out (obj_is _ _ _ _) rfl (obj_one _ _ _ _) ?_; intro w9 hu9; have B9 := bx (B0.out.trans (hu9.below (Nat.le_refl _))); have R9 := bx hu9.same; clear hu9)))
  refine bodyPost_ret (results_ct (cs := objC k (.slice A n cap)) rfl _ _ w.heap.size 43 _ _ rfl rfl R9.out Tryd.underlying43 rfl (obj_is _ _ _ _)) rfl ?_
  exact ⟨rfl, B9.out⟩
/-- Kept where another block is written. -/
theorem OwB.upd {w w' : World} {base : Nat} {v : Value} {bs : List Int} (h : OwB w base v bs) {g : Nat} {o : Obj} (hu : Upd w w' g o) (hg : g < base) : OwB w' base v bs := by
  obtain ⟨h1, h2 | ⟨b, cap, cur, e, hb, hh, h2⟩⟩ := h
  · exact ⟨h1, .inl h2⟩
  · exact ⟨h1, .inr ⟨b, cap, cur, e, hb, (hu.other b (by omega)).trans hh, h2⟩⟩
theorem rdB_one (w : World) (T : TypeId) (c : Int) {b : Nat} (hb : b = w.heap.size) : RdB (w.alloc (.cells #[.int .u8 c] T)) (some ⟨b, 0, none⟩) 1 [c] := hb ▸ rdB_made w T [c]
end Go.Proofs.YthnommoljikaiaaDoor
