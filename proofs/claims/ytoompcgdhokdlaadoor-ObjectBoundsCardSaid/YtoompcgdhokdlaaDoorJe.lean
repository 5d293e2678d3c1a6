/- Objects: what they are made of; text, fit. Objects: OfTree. Objects: bytes.Clone, OfMark. Objects: a map whose keys are names of objects. -/
import Derived.Test.YtoompcgdhokdlaaDoorJb
import Derived.Test.YtoompcgdhokdlaaDoorJc
import Derived.Lib.ConvBytes
import Derived.Deep.CutRange
import Derived.IntWalk
import Derived.WideKeyRuns
set_option linter.unusedSimpArgs false
set_option linter.unusedVariables false
namespace Go.Proofs.YtoompcgdhokdlaaDoor
open Go.RowKit

/-- A text as bytes: a row of its own. -/
theorem conv_str (s : ByteArray) (w : World) : ∃ w' c, (convert 9 33 (.string s)).run Tryd.prog w = .ok (.slice (some ⟨w.heap.size, 0, none⟩) s.size c) w' ∧ RdB w' (some ⟨w.heap.size, 0, none⟩) s.size (bytesOf s) ∧ s.size ≤ c ∧ Below w.heap.size w w' := by
  refine ⟨_, _, Lib.run_convert_string_bytes w 9 33 5 s Tryd.underlying9 Tryd.underlying33 Tryd.underlying5, ⟨bytesOf_length s, fun _ => ⟨_, 0, rfl, ?_, fun j hj => ?_⟩⟩, ?_, ?_⟩
  · rw [Lib.bytesWorld_size]; omega
  · rw [Nat.zero_add, Lib.bytesWorld_cell w _ s j hj]
    simp only [bytesOf, List.getD_eq_getElem?_getD, List.getElem?_map]
    have h' : j < s.data.toList.length := by simpa using hj
    rw [List.getElem?_eq_getElem h']
    rfl
  · have := grownCap_ge w s.size 0 5
    omega
  · exact ⟨rfl, rfl, rfl, by rw [Lib.bytesWorld_size]; omega, fun k hk => Lib.bytesWorld_at_old w _ s k hk⟩
/-- A text, cut off behind where it is too long, with its length ahead. -/
def textB (s : ByteArray) : List Int := be ((min s.size 16385 : Nat) : Int) 4 ++ (bytesOf s).take (min s.size 16385)
theorem bytesOf_ext (s : ByteArray) (m : Nat) (h : m ≤ s.size) : bytesOf (s.extract 0 m) = (bytesOf s).take m := by
  simp [bytesOf, ByteArray.data_extract, Array.toList_extract, List.extract_eq_take_drop]
set_option maxRecDepth 100000 in
set_option maxHeartbeats 400000 in
theorem text_any (A : Option Addr) (n cap : Nat) (bs : List Int) (s : ByteArray) (w : World) (hrd : RdB w A n bs) (hnil : A = none → cap = 0) (hn : n ≤ 1048576) :
    Calls Tryd.prog 33 #[.slice A n cap, .string s] w fun e w' => ∃ r, e = .returned r ∧ OwB w' w.heap.size r (bs ++ textB s) ∧ Below w.heap.size w w' := by
  obtain ⟨m, hm⟩ : ∃ m, min s.size 16385 = m := ⟨_, rfl⟩
  have hms : m ≤ s.size := by omega
  have hmin : min (s.size : Int) 16385 = m := by omega
  have hm1 : (m : Int) ≤ s.size := by omega
  have hm2 : m ≤ 16385 := by omega
  have hsz : (s.extract 0 m).size = m := by simp; omega
  obtain ⟨w5, c5, hcv, hr5, hc5, hb5⟩ := conv_str (s.extract 0 m) w
  rw [hsz] at hcv hr5
  rw [bytesOf_ext s m hms] at hr5
  have HT : Bx (textB s = be m 4 ++ (bytesOf s).take m) := ⟨by rw [textB, hm]⟩
  have HR := bx (hrd.below hb5); have HR5 := bx hr5; have HN := bx hnil; have B5 := bx hb5
  have HM := bx hm
  clear hm hrd hr5 hnil hc5 hb5 hsz
  go_enter Tryd.func33, Tryd.ntmps33
  go_wp2_with fail
  refine (sized_any A n cap bs _ m c5 _ w5 HR.out HN.out HR5.out (fun h => by cases h) (by omega) (by omega)).mono ?_
  rintro e w6 ⟨r, rfl, ho, hb⟩
  have O6 := bx (ho.base_le B5.out.size); have B6 := bx (B5.out.trans (hb.mono B5.out.size))
  clear ho hb
  go_wp2_with fail
  go_ret
  exact ⟨_, rfl, by rw [HT.out, ← List.append_assoc]; exact O6.out, B6.out⟩
/-- What fit tells. -/
def fitO (kind : Int) (d : List Int) : Int × List Int × Int := if 16384 < d.length then (0, [], 3) else (kind, d, 0)
def objC (k : Int) (v : Value) : Array Value := #[.int .i64 k, v]
/-- An object, and what is wrong, that are told. -/
def ObjO (w : World) (r : Int × List Int × Int) (e : Ending) (w' : World) : Prop := ∃ A c, e = .returned (.tuple #[.agg (objC r.1 (.slice A r.2.1.length c)), .int .i64 r.2.2]) ∧ RdB w' A r.2.1.length r.2.1 ∧ (A = none → c = 0) ∧ r.2.1.length ≤ c ∧ Below w.heap.size w w'
theorem obj_built (k : Int) (A : Option Addr) (n c : Nat) : Tryd.prog.built 35 [(0, .int .i64 k), (1, .slice A n c)] = some (objC k (.slice A n c)) := by kernel_rfl
theorem obj_built0 : Tryd.prog.built 35 [] = some (objC 0 (.slice none 0 0)) := by kernel_rfl
theorem obj_is (k : Int) (A : Option Addr) (n c : Nat) : (Tryd.prog.info? 35).map (·.size) = some (objC k (.slice A n c)).size := by kernel_rfl
theorem obj_one (k : Int) (A : Option Addr) (n c : Nat) : ∀ v ∈ (objC k (.slice A n c)).toList, v.oneCell' = true := by
  intro v hv
  simp only [objC, List.mem_cons, List.not_mem_nil, or_false] at hv
  rcases hv with rfl | rfl <;> rfl
set_option maxRecDepth 100000 in
set_option maxHeartbeats 400000 in
theorem fit_big (k : Int) (A : Option Addr) (n cap : Nat) (w : World) (hb : 16384 < n) :
    Calls Tryd.prog 34 #[.int .i64 k, .slice A n cap] w fun e w' => e = .returned (.tuple #[.agg (objC 0 (.slice none 0 0)), .int .i64 3]) ∧ Below w.heap.size w w' := by
  obtain ⟨w0, hw0⟩ : ∃ w0, w0 = w.alloc (.cells (objC 0 (.slice none 0 0)) 35) := ⟨_, rfl⟩
  have K0 : Bx (w0.heap[w.heap.size]? = some (.cells (objC 0 (.slice none 0 0)) 35 (0, 0))) := ⟨by rw [hw0]; exact blk_new w _⟩
  have LIT : Bx (w.alloc (.cells #[.int .i64 0, .slice none 0 0] 35) = w0) := ⟨hw0.symm⟩
  have B0 : Bx (Below w.heap.size w w0) := ⟨by rw [hw0]; exact (Below.refl _ _).alloc (Nat.le_refl _) _⟩
  clear hw0
  have hb' : (16384 : Int) < n := by omega
  go_enter Tryd.func34, Tryd.ntmps34
  go_upto_region 1 with fail
  rw [LIT.out]
  clear LIT
  go_wp2_with (first
    | ((with_reducible refine at_build 9 ?_); go_must (refine wpList_build2 rfl 35 [] rfl [] rfl (objC 0 (.slice none 0 0)) obj_built0 ?_))
    | ((with_reducible refine at_store (.tmp 4) (.tmp 9) ?_); go_must (refine store_all (cs := objC 0 (.slice none 0 0)) 35 (.tmp 4) (.tmp 9) rfl rfl rfl rfl K0.out (obj_is _ _ _ _) rfl (obj_one _ _ _ _) ?_; intro w9 hu9; have B9 := bx (B0.out.trans (hu9.below (Nat.le_refl _))); have R9 := bx hu9.same; clear hu9)))
  refine bodyPost_ret (results_ct (cs := objC 0 (.slice none 0 0)) rfl _ _ w.heap.size 35 _ _ rfl rfl R9.out Tryd.underlying35 rfl (obj_is _ _ _ _)) rfl ?_
  exact ⟨rfl, B9.out⟩
set_option maxRecDepth 100000 in
set_option maxHeartbeats 400000 in
theorem fit_ok (k : Int) (A : Option Addr) (n cap : Nat) (w : World) (hb : n ≤ 16384) :
    Calls Tryd.prog 34 #[.int .i64 k, .slice A n cap] w fun e w' => e = .returned (.tuple #[.agg (objC k (.slice A n cap)), .int .i64 0]) ∧ Below w.heap.size w w' := by
  obtain ⟨w0, hw0⟩ : ∃ w0, w0 = w.alloc (.cells (objC 0 (.slice none 0 0)) 35) := ⟨_, rfl⟩
  have K0 : Bx (w0.heap[w.heap.size]? = some (.cells (objC 0 (.slice none 0 0)) 35 (0, 0))) := ⟨by rw [hw0]; exact blk_new w _⟩
  have LIT : Bx (w.alloc (.cells #[.int .i64 0, .slice none 0 0] 35) = w0) := ⟨hw0.symm⟩
  have B0 : Bx (Below w.heap.size w w0) := ⟨by rw [hw0]; exact (Below.refl _ _).alloc (Nat.le_refl _) _⟩
  clear hw0
  have hb' : ¬ (16384 : Int) < n := by omega
  go_enter Tryd.func34, Tryd.ntmps34
  go_upto_region 1 with fail
  rw [LIT.out]
  clear LIT
  go_wp2_with (first
    | ((with_reducible refine at_build 12 ?_); go_must (refine wpList_build2 rfl 35 [(0, .tmp 10), (1, .tmp 11)] rfl _ rfl (objC k (.slice A n cap)) (obj_built k A n cap) ?_))
    | ((with_reducible refine at_store (.tmp 4) (.tmp 12) ?_); go_must (refine store_all (cs := objC k (.slice A n cap)) 35 (.tmp 4) (.tmp 12) rfl rfl rfl rfl K0.out (obj_is _ _ _ _) rfl (obj_one _ _ _ _) ?_; intro w9 hu9; have B9 := bx (B0.out.trans (hu9.below (Nat.le_refl _))); have R9 := bx hu9.same; clear hu9)))
  refine bodyPost_ret (results_ct (cs := objC k (.slice A n cap)) rfl _ _ w.heap.size 35 _ _ rfl rfl R9.out Tryd.underlying35 rfl (obj_is _ _ _ _)) rfl ?_
  exact ⟨rfl, B9.out⟩
/-- Kept where another block is written. -/
theorem OwB.upd {w w' : World} {base : Nat} {v : Value} {bs : List Int} (h : OwB w base v bs) {g : Nat} {o : Obj} (hu : Upd w w' g o) (hg : g < base) : OwB w' base v bs := by
  obtain ⟨h1, h2 | ⟨b, cap, cur, e, hb, hh, h2⟩⟩ := h
  · exact ⟨h1, .inl h2⟩
  · exact ⟨h1, .inr ⟨b, cap, cur, e, hb, (hu.other b (by omega)).trans hh, h2⟩⟩
theorem rdB_one (w : World) (T : TypeId) (c : Int) {b : Nat} (hb : b = w.heap.size) : RdB (w.alloc (.cells #[.int .u8 c] T)) (some ⟨b, 0, none⟩) 1 [c] := hb ▸ rdB_made w T [c]
end Go.Proofs.YtoompcgdhokdlaaDoor

set_option linter.unusedSimpArgs false
set_option linter.unusedVariables false
namespace Go.Proofs.YtoompcgdhokdlaaDoor
open Go.RowKit

/-- One of a tree. -/
structure Ent where
  name : ByteArray
  dir : Bool
  id : List Int
def Ent.cells (e : Ent) : List Value := .string e.name :: .bool e.dir :: u8s e.id
def dirB (d : Bool) : Int := if d then 1 else 0
def entB (e : Ent) : List Int := [dirB e.dir] ++ textB e.name ++ e.id
def badAt (L : Nat → Ent) (i : Nat) : Bool := !partB (L i).name.data.toList || (decide (0 < i) && !Op.bytesLess (L (i - 1)).name.data.toList (L i).name.data.toList)
def treeUp (L : Nat → Ent) (n j : Nat) : List Int := be n 2 ++ (List.range j).flatMap fun i => entB (L i)
def badUp (L : Nat → Ent) (j : Nat) : Bool := (List.range j).any (badAt L)
def treeO (L : Nat → Ent) (n : Nat) : Int × List Int × Int := if 32 < n then (0, [], 3) else if badUp L n = true then (0, [], 2) else fitO 2 (treeUp L n n)
theorem treeUp_succ (L : Nat → Ent) (n j : Nat) : treeUp L n (j + 1) = treeUp L n j ++ entB (L j) := by simp [treeUp, List.range_succ, List.append_assoc]
theorem badUp_succ (L : Nat → Ent) (j : Nat) : badUp L (j + 1) = (badUp L j || badAt L j) := by simp [badUp, List.range_succ]
theorem badUp_at (L : Nat → Ent) {j n : Nat} (hj : j < n) (h : badAt L j = true) : badUp L n = true := by
  simp only [badUp, List.any_eq_true, List.mem_range]
  exact ⟨j, hj, h⟩
theorem textB_length (s : ByteArray) : (textB s).length ≤ 16389 := by
  simp only [textB, List.length_append, be_length, List.length_take]
  omega
theorem treeUp_length (L : Nat → Ent) (n : Nat) : ∀ j, (∀ i, i < j → (L i).id.length = 32) → (treeUp L n j).length ≤ 2 + 16422 * j
  | 0, _ => by simp [treeUp, be_length]
  | j + 1, h => by
    have ih := treeUp_length L n j fun i hi => h i (by omega)
    have ht := textB_length (L j).name
    have hi := h j (by omega)
    rw [treeUp_succ, List.length_append, entB, List.length_append, List.length_append, hi]
    simp only [List.length_cons, List.length_nil]
    omega
theorem ent_inf : (Tryd.prog.info? 32).map (·.size) = some 34 := by kernel_rfl
theorem ent_is {e : Ent} (h : e.id.length = 32) : (Tryd.prog.info? 32).map (·.size) = some e.cells.length := by
  have : e.cells.length = 34 := by simp [Ent.cells, u8s_length, h]
  rw [this]
  exact ent_inf
theorem ent_one {e : Ent} : ∀ v ∈ e.cells.toArray.toList, v.oneCell' = true := by
  intro v hv
  simp only [Ent.cells, u8s, List.mem_cons, List.mem_map] at hv
  rcases hv with rfl | rfl | ⟨x, _, rfl⟩ <;> rfl
theorem less_below (a b : ByteArray) (w : World) : Calls Tryd.prog 32 #[.string a, .string b] w fun e w' => e = .returned (.bool (Op.bytesLess a.data.toList b.data.toList)) ∧ Below w.heap.size w w' :=
  (less_any a b w).mono fun e w' ⟨h1, h2⟩ => ⟨h1, h2 ▸ Below.refl _ _⟩
theorem part_below (s : ByteArray) (w : World) (hM : MaxAt w) (hs : s.size < 4294967281) : Calls Tryd.prog 31 #[.string s] w fun e w' => e = .returned (.bool (partB s.data.toList)) ∧ Below w.heap.size w w' :=
  (part_any s w hM hs).mono fun e w' ⟨h1, h2⟩ => ⟨h1, h2 ▸ Below.refl _ _⟩
set_option maxRecDepth 100000 in
set_option maxHeartbeats 4000000 in
theorem oftree_any (A : Option Addr) (n cap : Nat) (L : Nat → Ent) (w : World) (hM : MaxAt w) (hr : RowAt w A n 34 (fun j => (L j).cells)) (hid : ∀ j, j < n → (L j).id.length = 32) (hnm : ∀ j, j < n → (L j).name.size ≤ 4294967280) :
    Calls Tryd.prog 7 #[.slice A n cap] w (ObjO w (treeO L n)) := by
  obtain ⟨w0, hw0⟩ : ∃ w0, w0 = w.alloc (.cells (objC 0 (.slice none 0 0)) 35) := ⟨_, rfl⟩
  have K0 : Bx (w0.heap[w.heap.size]? = some (.cells (objC 0 (.slice none 0 0)) 35 (0, 0))) := ⟨by rw [hw0]; exact blk_new w _⟩
  have LIT : Bx (w.alloc (.cells #[.int .i64 0, .slice none 0 0] 35) = w0) := ⟨hw0.symm⟩
  have B0 : Bx (Below w.heap.size w w0) := ⟨by rw [hw0]; exact (Below.refl _ _).alloc (Nat.le_refl _) _⟩
  have SZ : Bx (w0.heap.size = w.heap.size + 1) := ⟨by rw [hw0]; simp⟩
  have HM := bx (hM.below B0.out); have HMW := bx hM; have HR := bx hr; have HID := bx hid; have HNM := bx hnm
  have HOUT : Bx (∀ (r : Int × List Int × Int) A c w', treeO L n = r → RdB w' A r.2.1.length r.2.1 → (A = none → c = 0) → r.2.1.length ≤ c → Below w.heap.size w w' → ObjO w (treeO L n) (.returned (.tuple #[.agg (objC r.1 (.slice A r.2.1.length c)), .int .i64 r.2.2])) w') := ⟨fun r A c w' hr h1 h2 h3 h4 => by subst hr; exact ⟨A, c, rfl, h1, h2, h3, h4⟩⟩
  clear hw0 hM hr hid hnm
  generalize ObjO w (treeO L n) = OUT at *
  by_cases hbig : 32 < n
  · have hbig' : (32 : Int) < n := by omega
    have HT : Bx (treeO L n = (0, [], 3)) := ⟨by rw [treeO, if_pos hbig]⟩
    go_enter Tryd.func7, Tryd.ntmps7
    go_upto_region 1 with fail
    rw [LIT.out]
    clear LIT
    go_wp2_with (first
      | ((with_reducible refine at_build 11 ?_); go_must (refine wpList_build2 rfl 35 [] rfl [] rfl (objC 0 (.slice none 0 0)) obj_built0 ?_))
      | ((with_reducible refine at_store (.tmp 2) (.tmp 11) ?_); go_must (refine store_all (cs := objC 0 (.slice none 0 0)) 35 (.tmp 2) (.tmp 11) rfl rfl rfl rfl K0.out (obj_is _ _ _ _) rfl (obj_one _ _ _ _) ?_; intro w9 hu9; have B9 := bx (B0.out.trans (hu9.below (Nat.le_refl _))); have R9 := bx hu9.same; clear hu9)))
    refine bodyPost_ret (results_ct (cs := objC 0 (.slice none 0 0)) rfl _ _ w.heap.size 35 _ _ rfl rfl R9.out Tryd.underlying35 rfl (obj_is _ _ _ _)) rfl ?_
    exact HOUT.out (0, [], 3) none 0 _ HT.out ⟨rfl, fun h => absurd h (by decide)⟩ (fun _ => rfl) (Nat.le_refl _) B9.out
  · have hbig' : ¬ (32 : Int) < n := by omega
    have hw1 : (n : Int) % 18446744073709551616 = n := by omega
    go_enter Tryd.func7, Tryd.ntmps7
    go_upto_region 1 with fail
    rw [LIT.out]
    clear LIT
    go_wp2_with fail
    refine (wput_any none 0 0 [] n 2 _ ⟨rfl, fun h => absurd h (by decide)⟩ (fun _ => rfl) (by decide) (by decide)).mono ?_
    rintro e w1 ⟨r, rfl, ho, hb⟩
    rw [List.nil_append] at ho
    have O1 := bx ho; have D1 := bx hb
    clear ho hb hbig'
    go_wp2_with fail
    clear hw1
    go_loopw [4, 18] (fun v i wr => ∃ j : Nat, j ≤ n ∧ i = .int .i64 j ∧ OwB wr (w.heap.size + 1) v (treeUp L n j) ∧ badUp L j = false ∧ Below w0.heap.size w0 wr) (fun _ i _ => (n - intOf i).toNat)
    case atStart => exact ⟨0, Nat.zero_le _, rfl, by rw [← SZ.out]; simpa [treeUp] using O1.out, rfl, D1.out⟩
    case round =>
      obtain ⟨j, hj, rfl, ho, hbad, hb⟩ := hrel
      clear O1 D1
      have O1 := bx ho; have D1 := bx hb; have HBAD := bx hbad
      have LN := bx (treeUp_length L n j fun i hi => HID.out i (by omega))
      clear ho hb hbad
      by_cases hlt : j < n
      · have hlt' : (j : Int) < n := by omega
        obtain ⟨b1, o1, rfl, hb1, hr1⟩ := HR.out.at hlt
        have HR1 := bx (fun w' h => hr1 w' h)
        have hidj := HID.out j hlt
        have hnmj := HNM.out j hlt
        have HPREV : Bx (∀ i, i + 1 = j → (L i).name.size ≤ 4294967280 ∧ ∀ w', Below w.heap.size w w' → w'.cell? ⟨b1, o1 + i * 34, none⟩ = some (.string (L i).name)) := ⟨fun i hi => by
          refine ⟨HNM.out i (by omega), fun w' h => ?_⟩
          obtain ⟨b9, o9, e9, _, hr9⟩ := HR.out.at (show i < n by omega)
          cases e9
          exact hr9 w' h 0 _ rfl⟩
        have HSUC := bx (treeUp_succ L n j)
        have HBS := bx (badUp_succ L j)
        have HBA := bx (fun h => badUp_at L hlt h)
        have hbat : badAt L j = (!partB (L j).name.data.toList || (decide (0 < j) && !Op.bytesLess (L (j - 1)).name.data.toList (L j).name.data.toList)) := rfl
        have HI : Bx ((Tryd.prog.info? 32).map (·.size) = some (L j).cells.length) := ⟨ent_is hidj⟩
        have HI2 : Bx ((Tryd.prog.info? 32).map (·.size) = some (L j).cells.toArray.size) := ⟨by rw [List.size_toArray]; exact HI.out⟩
        have HS : Bx ((L j).cells.toArray.size = 34) := ⟨by simp [Ent.cells, u8s_length, hidj]⟩
        have HO : Bx (∀ v ∈ (L j).cells.toArray.toList, v.oneCell' = true) := ⟨ent_one⟩
        have DW := bx (B0.out.trans (D1.out.mono B0.out.size))
        have HR2 := bx (HR1.out wr DW.out)
        have HCL : Bx ((L j).cells.toArray[0]? = some (.string (L j).name) ∧ (L j).cells.toArray[1]? = some (.bool (L j).dir) ∧ (L j).cells = [.string (L j).name, .bool (L j).dir] ++ u8s (L j).id) := ⟨⟨rfl, rfl, rfl⟩⟩
        have HEB : Bx (entB (L j) = [dirB (L j).dir] ++ textB (L j).name ++ (L j).id) := ⟨rfl⟩
        clear hr1
        generalize (L j).cells = cl at *
        generalize (L j).name = s at *
        generalize (L j).dir = d at *
        generalize (L j).id = id at *
        go_upto_region 7 with (first
          | ((with_reducible refine at_load 22 ?_); go_must (refine wpList_load_mid rfl 32 (.tmp 21) rfl b1 (o1 + j * 34) rfl cl _ HR2.out Tryd.underlying32 rfl HI.out ?_))
          | ((with_reducible refine at_store (.tmp 6) (.tmp 22) ?_); go_must (refine store_all (cs := cl.toArray) 32 (.tmp 6) (.tmp 22) rfl rfl rfl rfl (blk_new wr _) HI2.out (by rw [HS.out]; rfl) HO.out ?_; intro w2 hu2; have X2 := bx hu2.same; have D2 := bx (((Below.refl wr.heap.size wr).alloc (Nat.le_refl _) _).trans (hu2.below (Nat.le_refl _))); clear hu2)))
        have HX : Bx (∀ w', Below w2.heap.size w2 w' → w'.heap[wr.heap.size]? = some (.cells cl.toArray 32 (0, 0))) := ⟨fun w' h => (h.block _ (blk_lt X2.out)).trans X2.out⟩
        have DW2 := bx (DW.out.trans (D2.out.mono DW.out.size))
        have HM2 := bx (HMW.out.below DW2.out)
        obtain ⟨bad, hb0⟩ : ∃ bad, badAt L j = bad := ⟨_, rfl⟩
        rw [hb0] at hbat HBS HBA
        have HBAT := bx hbat
        clear hb0 hbat
        try simp only [Act.put]
        go_cut [42] from 19 to 56 (fun c wc => c = .bool bad ∧ Below w2.heap.size w2 wc)
        case first =>
          obtain ⟨p, hp⟩ : ∃ p, partB s.data.toList = p := ⟨_, rfl⟩
          have HPT : Bx (∀ w', Below w2.heap.size w2 w' → Calls Tryd.prog 31 #[.string s] w' fun e w'' => e = .returned (.bool p) ∧ Below w'.heap.size w' w'') := ⟨fun w' h => by
            have := part_below s w' (HM2.out.below h) (by omega)
            rw [hp] at this
            exact this⟩
          rw [hp] at HBAT
          cases p with
          | false =>
            have e1 := HBAT.out
            simp only [Bool.not_false, Bool.true_or] at e1
            subst e1
            clear hp HBAT
            try simp only [Act.put]
            refine region_quietC (fun w' => Below w2.heap.size w2 w') (by kernel_rfl) (by kernel_rfl) ((Below.refl _ _).drew) ?_
            repeat (first
              | go_big_quiet_skip
              | (go_big_quiet_want; go_big_quiet_op; go_big_quiet_on)
              | (refine quiet_take (v := ?_) _ rfl (by kernel_rfl) ?_ ?_; rotate_left 1; (focus (first | (intro w' hw'; clear hw'; unfold Oper.quietAt; go_simp; done) | (intro w' hw'; clear hw'; unfold Oper.quietAt; go_simp; with_reducible rfl) | (intro w' hw'; have z0 := blk_cell (HX.out w' hw') HCL.out.1; unfold Oper.quietAt; go_simp; first | done | with_reducible rfl | ((with_reducible refine (HPT.out w' hw').mono ?_); rintro x w9 ⟨rfl, hb⟩; refine ⟨?_, hw'.trans (hb.mono hw'.size)⟩; with_reducible rfl)))); try simp only [List.setIfInBounds_toArray, List.set_cons_zero, List.set_cons_succ]))
            refine wpQuiet_nil ?_
            intro w3 hw3
            have D3 := bx hw3
            clear hw3
            go_wp2_with fail
            go_meet
            case rel => exact ⟨rfl, D3.out⟩
          | true =>
            clear hp
            by_cases h0 : j = 0
            · have e1 := HBAT.out
              have h0' : ¬ (0 : Int) < j := by omega
              simp only [Bool.not_true, Bool.false_or, show ¬ 0 < j by omega, decide_false, Bool.false_and] at e1
              subst e1
              have hd0 : ¬ 0 < j := by omega
              have hd1 : decide (0 < j) = false := by simp; omega
              have hd2 : decide ((0 : Int) < (j : Int)) = false := by simp; omega
              clear h0 HBAT
              try simp only [Act.put]
              refine region_quietC (fun w' => Below w2.heap.size w2 w') (by kernel_rfl) (by kernel_rfl) ((Below.refl _ _).drew) ?_
              repeat (first
                | go_big_quiet_skip
                | (go_big_quiet_want; go_big_quiet_op; go_big_quiet_on)
                | (refine quiet_take (v := ?_) _ rfl (by kernel_rfl) ?_ ?_; rotate_left 1; (focus (first | (intro w' hw'; clear hw'; unfold Oper.quietAt; go_simp; done) | (intro w' hw'; clear hw'; unfold Oper.quietAt; go_simp; with_reducible rfl) | (intro w' hw'; have z0 := blk_cell (HX.out w' hw') HCL.out.1; unfold Oper.quietAt; go_simp; first | done | with_reducible rfl | ((with_reducible refine (HPT.out w' hw').mono ?_); rintro x w9 ⟨rfl, hb⟩; refine ⟨?_, hw'.trans (hb.mono hw'.size)⟩; with_reducible rfl)))); try simp only [List.setIfInBounds_toArray, List.set_cons_zero, List.set_cons_succ]))
              refine wpQuiet_nil ?_
              intro w3 hw3
              have D3 := bx hw3
              clear hw3
              go_wp2_with fail
              go_meet
              case rel => exact ⟨rfl, D3.out⟩
            · obtain ⟨i, hi⟩ : ∃ i, i + 1 = j := ⟨j - 1, by omega⟩
              obtain ⟨hpn, hpc⟩ := HPREV.out i hi
              have hji : j - 1 = i := by omega
              have h0' : (0 : Int) < j := by omega
              have hj1 : (j : Int) - 1 = i := by omega
              have hj2 : IntKind.i64.wrap (i : Int) = i := IntWalk.i64_in _ (by omega)
              have hin : (i : Int) < n := by omega
              have e1 := HBAT.out
              rw [hji] at e1
              simp only [Bool.not_true, Bool.false_or, show 0 < j by omega, decide_true, Bool.true_and] at e1
              generalize (L i).name = ps at hpc hpn e1
              obtain ⟨q, hq⟩ : ∃ q, Op.bytesLess ps.data.toList s.data.toList = q := ⟨_, rfl⟩
              have HLT : Bx (∀ w', Calls Tryd.prog 32 #[.string ps, .string s] w' fun e w'' => e = .returned (.bool q) ∧ Below w'.heap.size w' w'') := ⟨fun w' => by
                have := less_below ps s w'
                rw [hq] at this
                exact this⟩
              rw [hq] at e1
              subst e1
              have HPC := bx (fun w' h => hpc w' h)
              have hd0 : 0 < j := by omega
              have hd1 : decide (0 < j) = true := by simp; omega
              have hd2 : decide ((0 : Int) < (j : Int)) = true := by simp; omega
              clear hq h0 hpc hji hi HBAT
              try simp only [Act.put]
              refine region_quietC (fun w' => Below w2.heap.size w2 w') (by kernel_rfl) (by kernel_rfl) ((Below.refl _ _).drew) ?_
              repeat (first
                | go_big_quiet_skip
                | (go_big_quiet_want; go_big_quiet_op; go_big_quiet_on)
                | (refine quiet_take (v := ?_) _ rfl (by kernel_rfl) ?_ ?_; rotate_left 1; (focus (first | (intro w' hw'; clear hw'; unfold Oper.quietAt; go_simp; done) | (intro w' hw'; clear hw'; unfold Oper.quietAt; go_simp; with_reducible rfl) | (intro w' hw'; have z0 := blk_cell (HX.out w' hw') HCL.out.1; have z1 := HPC.out w' (DW2.out.trans (hw'.mono DW2.out.size)); unfold Oper.quietAt; go_simp; first | done | with_reducible rfl | ((with_reducible refine (HPT.out w' hw').mono ?_); rintro x w9 ⟨rfl, hb⟩; refine ⟨?_, hw'.trans (hb.mono hw'.size)⟩; with_reducible rfl) | ((with_reducible refine (HLT.out w').mono ?_); rintro x w9 ⟨rfl, hb⟩; refine ⟨?_, hw'.trans (hb.mono hw'.size)⟩; with_reducible rfl)))); try simp only [List.setIfInBounds_toArray, List.set_cons_zero, List.set_cons_succ]))
              refine wpQuiet_nil ?_
              intro w3 hw3
              have D3 := bx hw3
              clear hw3
              go_wp2_with fail
              go_meet
              case rel => exact ⟨rfl, D3.out⟩
        case rest =>
          rename World => w3
          obtain ⟨rfl, hwc⟩ := hcut
          have D3 := bx (D2.out.trans (hwc.mono D2.out.size))
          have X3 := bx (HX.out w3 hwc)
          have O3 := bx (O1.out.kept D3.out)
          have DW3 := bx (DW.out.trans (D3.out.mono DW.out.size))
          have K3 := bx (((D1.out.trans (D3.out.mono D1.out.size)).block _ (blk_lt K0.out)).trans K0.out)
          have DZ3 := bx (D1.out.trans (D3.out.mono D1.out.size))
          have HNE : Bx (some wr.heap.size ≠ u4.ownBlock) := ⟨fun e => Nat.lt_irrefl _ (O1.out.lt _ e.symm).2⟩
          have L1 := bx (Nat.le_trans (Nat.le_of_eq SZ.out.symm) D1.out.size)
          clear hwc HX O1 D1 D2 X2 DW2 HM2 HR2 HR1 HPREV
          cases bad with
          | true =>
            have HT : Bx (treeO L n = (0, [], 2)) := ⟨by rw [treeO, if_neg hbig, if_pos (HBA.out rfl)]⟩
            go_wp2_with (first
              | ((with_reducible refine at_build 43 ?_); go_must (refine wpList_build2 rfl 35 [] rfl [] rfl (objC 0 (.slice none 0 0)) obj_built0 ?_))
              | ((with_reducible refine at_store (.tmp 2) (.tmp 43) ?_); go_must (refine store_all (cs := objC 0 (.slice none 0 0)) 35 (.tmp 2) (.tmp 43) rfl rfl rfl rfl K3.out (obj_is _ _ _ _) rfl (obj_one _ _ _ _) ?_; intro w9 hu9; have B9 := bx (DW3.out.trans (hu9.below (Nat.le_refl _))); have R9 := bx hu9.same; clear hu9)))
            refine bodyPost_ret (results_ct (cs := objC 0 (.slice none 0 0)) rfl _ _ w.heap.size 35 _ _ rfl rfl R9.out Tryd.underlying35 rfl (obj_is _ _ _ _)) rfl ?_
            exact HOUT.out (0, [], 2) none 0 _ HT.out ⟨rfl, fun h => absurd h (by decide)⟩ (fun _ => rfl) (Nat.le_refl _) B9.out
          | false =>
            have y1 := blk_cell X3.out HCL.out.2.1
            go_upto_if 45 with fail
            clear y1
            go_cut [7] from 19 to 56 (fun c wx => c = .int .u8 (dirB d) ∧ Below w3.heap.size w3 wx)
            case first =>
              cases d
              all_goals
                go_wp2_with fail
                go_meet
                case rel => exact ⟨rfl, Below.refl _ _⟩
            case rest =>
              rename World => w4
              obtain ⟨rfl, hw4⟩ := hcut
              have X4 := bx ((hw4.block _ (blk_lt X3.out)).trans X3.out)
              have O4 := bx (O3.out.kept hw4)
              have DZ4 := bx (DZ3.out.trans (hw4.mono DZ3.out.size))
              have DW4 := bx (DW3.out.trans (hw4.mono DW3.out.size))
              have LX := bx (blk_lt X4.out)
              clear hw4 X3 O3 D3 DW3 K3
              have HRI : Bx (∀ w' : World, w'.heap[wr.heap.size]? = some (.cells cl.toArray 32 (0, 0)) → RdB w' (some ⟨wr.heap.size, 2, none⟩) 32 id) := ⟨fun w' hk => by
                have h9 := row_rdB (w := w') (b := wr.heap.size) (o := 0) (l := cl) (pre := [.string s, .bool d]) (id := id) (post := []) (fun q v hv => by rw [Nat.zero_add]; exact blk_cell hk (by simpa using hv)) (by rw [List.append_nil]; exact HCL.out.2.2) (blk_lt hk)
                rw [hidj] at h9
                exact h9⟩
              obtain ⟨n3, hn3⟩ : ∃ n3, (treeUp L n j ++ [dirB d]).length = n3 := ⟨_, rfl⟩
              have HN3 : Bx (n3 ≤ 1048575) := ⟨by rw [← hn3, List.length_append]; have := LN.out; simp; omega⟩
              have HL3 := bx hn3
              have HL0 : Bx ((treeUp L n j).length ≤ 1048575) := ⟨by have := LN.out; omega⟩
              have HL5 : Bx ((treeUp L n j ++ [dirB d] ++ textB s).length ≤ 2097152) := ⟨by rw [List.length_append, hn3]; have := textB_length s; have := HN3.out; omega⟩
              have HFIN : Bx (treeUp L n j ++ [dirB d] ++ textB s ++ id = treeUp L n (j + 1)) := ⟨by rw [HSUC.out, HEB.out]; simp [List.append_assoc]⟩
              have sl := arr_slice_all (P := Tryd.prog) (t := 24) Tryd.underlying24 Tryd.sizeOf5 wr.heap.size 2
              have HC : Bx (cl.toArray[0]? = some (.string s)) := ⟨HCL.out.1⟩
              clear hn3 HCL HI HI2 HS HO
              generalize treeUp L n j = T0 at *
              generalize dirB d = dv at *
              go_upto_region 12 with fail
              have hS0 : Below (w.heap.size + 1) w4 w4.drew ∧ w4.drew.heap[wr.heap.size]? = some (.cells cl.toArray 32 (0, 0)) := ⟨(Below.refl _ _).drew, X4.out⟩
              refine wp_region_held_drew (S := (fun w' => Below (w.heap.size + 1) w4 w' ∧ w'.heap[wr.heap.size]? = some (.cells cl.toArray 32 (0, 0)))) (by kernel_rfl) hS0 (fun hS => ?_)
              refine takeH (i := 0) (d := 46) (v := ?_) rfl rfl (by kernel_rfl) (by kernel_rfl) (by kernel_rfl) (fun _ _ _ h => h) (Or.inl ⟨by kernel_rfl, ?_⟩) hS ?_; rotate_left 1; (focus ((intro w' hS'; clear hS'; go_simp; try with_reducible rfl); done))
              try simp only [List.setIfInBounds_toArray, List.set_cons_zero, List.set_cons_succ]
              refine takeH (i := 1) (d := 47) (v := ?_) rfl rfl (by kernel_rfl) (by kernel_rfl) (by kernel_rfl) (fun _ _ _ h => h) (Or.inl ⟨by kernel_rfl, ?_⟩) hS ?_; rotate_left 1; (focus ((intro w' hS'; clear hS'; go_simp; try with_reducible rfl); done))
              try simp only [List.setIfInBounds_toArray, List.set_cons_zero, List.set_cons_succ]
              refine takeH (i := 4) (d := 50) (v := ?_) rfl rfl (by kernel_rfl) (by kernel_rfl) (by kernel_rfl) (fun _ _ _ h => h) (Or.inl ⟨by kernel_rfl, ?_⟩) hS ?_; rotate_left 1; (focus ((intro w' hS'; clear hS'; go_simp; try with_reducible rfl); done))
              try simp only [List.setIfInBounds_toArray, List.set_cons_zero, List.set_cons_succ]
              refine takeH (i := 5) (d := 51) (v := ?_) rfl rfl (by kernel_rfl) (by kernel_rfl) (by kernel_rfl) (fun _ _ _ h => h) (Or.inl ⟨by kernel_rfl, ?_⟩) hS ?_; rotate_left 1; (focus ((intro w' hS'; have z0 := blk_cell hS'.2 HC.out; clear hS'; go_simp; try with_reducible rfl); done))
              try simp only [List.setIfInBounds_toArray, List.set_cons_zero, List.set_cons_succ]
              refine takeH (i := 7) (d := 53) (v := ?_) rfl rfl (by kernel_rfl) (by kernel_rfl) (by kernel_rfl) (fun _ _ _ h => h) (Or.inl ⟨by kernel_rfl, ?_⟩) hS ?_; rotate_left 1; (focus ((intro w' hS'; clear hS'; go_simp; try with_reducible rfl); done))
              try simp only [List.setIfInBounds_toArray, List.set_cons_zero, List.set_cons_succ]
              refine takeH (i := 8) (d := 54) (v := ?_) rfl rfl (by kernel_rfl) (by kernel_rfl) (by kernel_rfl) (fun _ _ _ h => h) (Or.inl ⟨by kernel_rfl, ?_⟩) hS ?_; rotate_left 1; (focus ((intro w' hS'; clear hS'; go_simp; try with_reducible rfl); done))
              try simp only [List.setIfInBounds_toArray, List.set_cons_zero, List.set_cons_succ]
              refine wpAnyH_ready (rs := [2]) (by kernel_rfl) (by simp) ?_
              refine AllReadyH.cons rfl (fun K hK => ?_) AllReadyH.nil
              go_simp
              refine hK.out _ _ ?_ (fun hS2 => ?_)
              · exact ⟨hS.1.alloc (Nat.le_trans L1.out (Nat.le_of_lt LX.out)) _, blk_alloc hS.2⟩
              clear hK K hS; have hS := hS2; clear hS2
              try simp only [Act.put, List.setIfInBounds_toArray, List.set_cons_zero, List.set_cons_succ]
              refine wpAnyH_ready (rs := [3]) (by kernel_rfl) (by simp) ?_
              refine readyH_list rfl (fun K hK => ?_) AllReadyH.nil
              refine wpList_app rfl (.tmp 46) (.tmp 48) rfl (w.heap.size + 1) u4 T0 rfl ((O4.out.kept ((Below.refl _ _).drew)).alloc _) (some ⟨_, 0, none⟩) 1 1 [dv] rfl (rdB_one _ _ _ rfl) (fun h => by cases h) (by have := HL0.out; omega) (Nat.le_trans L1.out (Nat.le_trans (Nat.le_of_lt LX.out) (by simp))) ?_
              intro v5 w5 h1 h2
              obtain ⟨A5, c5, rfl, hr5, hc5, hn5⟩ := h1.rdn HL3.out
              have R5 := bx hr5; have N5 := bx hn5
              have D5 := bx (((O4.out.kept ((Below.refl _ _).drew)).alloc _).below h2 hS.1 (Nat.le_refl _) (Nat.le_trans L1.out (Nat.le_trans (Nat.le_of_lt LX.out) (by simp))))
              have X5 := bx ((h2.block wr.heap.size (blk_lt hS.2) HNE.out).trans hS.2)
              clear h1 h2 hr5 hc5 hn5
              show wpList _ _ K [] (Act.put _ (some 49) (.slice A5 n3 c5)) w5
              refine hK.out _ _ ?_ (fun hS2 => ?_)
              · exact ⟨D5.out, X5.out⟩
              clear hK K hS; have hS := hS2; clear hS2
              try simp only [Act.put, List.setIfInBounds_toArray, List.set_cons_zero, List.set_cons_succ]
              refine wpAnyH_ready (rs := [6]) (by kernel_rfl) (by simp) ?_
              refine AllReadyH.cons rfl (fun K hK => ?_) AllReadyH.nil
              go_simp
              refine (text_any A5 n3 c5 _ s _ R5.out N5.out (by have := HN3.out; omega)).mono ?_
              rintro x w6 ⟨r6, rfl, ho6, hb6⟩
              have O6 := bx (ho6.base_le (Nat.le_trans L1.out (Nat.le_of_lt (blk_lt X5.out))))
              have D6 := bx (D5.out.trans (hb6.mono (Nat.le_trans L1.out (Nat.le_of_lt (blk_lt X5.out)))))
              have X6 := bx ((hb6.block _ (blk_lt X5.out)).trans X5.out)
              have HNE6 := bx (show some wr.heap.size ≠ r6.ownBlock from fun e => Nat.lt_irrefl _ (Nat.lt_of_lt_of_le (blk_lt X5.out) (ho6.lt _ e.symm).1))
              clear ho6 hb6
              refine hK.out _ _ ?_ (fun hS2 => ?_)
              · exact ⟨D6.out, X6.out⟩
              clear hK K hS; have hS := hS2; clear hS2
              try simp only [Act.put, List.setIfInBounds_toArray, List.set_cons_zero, List.set_cons_succ]
              refine wpAnyH_ready (rs := [9]) (by kernel_rfl) (by simp) ?_
              refine readyH_list rfl (fun K hK => ?_) AllReadyH.nil
              refine wpList_app rfl (.tmp 52) (.tmp 54) rfl (w.heap.size + 1) r6 _ rfl O6.out (some ⟨wr.heap.size, 2, none⟩) 32 32 id rfl (HRI.out _ X6.out) (fun h => by cases h) (by have := HL5.out; omega) (Nat.le_trans L1.out (Nat.le_of_lt (blk_lt X6.out))) ?_
              intro v7 w7 h1 h2
              rw [HFIN.out] at h1
              have O7 := bx h1
              have D7 := bx (O6.out.below h2 D6.out (Nat.le_refl _) (Nat.le_trans L1.out (Nat.le_of_lt (blk_lt X6.out))))
              have X7 := bx ((h2.block wr.heap.size (blk_lt X6.out) HNE6.out).trans X6.out)
              clear h1 h2
              show wpList _ _ K [] (Act.put _ (some 55) v7) w7
              refine hK.out _ _ ?_ (fun hS2 => ?_)
              · exact ⟨D7.out, X7.out⟩
              clear hK K hS; have hS := hS2; clear hS2
              try simp only [Act.put, List.setIfInBounds_toArray, List.set_cons_zero, List.set_cons_succ]
              refine takeH (i := 10) (d := 4) (v := ?_) rfl rfl (by kernel_rfl) (by kernel_rfl) (by kernel_rfl) (fun _ _ _ h => h) (Or.inl ⟨by kernel_rfl, ?_⟩) hS ?_; rotate_left 1; (focus ((intro w' hS'; clear hS'; go_simp; try with_reducible rfl); done))
              try simp only [List.setIfInBounds_toArray, List.set_cons_zero, List.set_cons_succ]
              refine wpAnyH_done (by kernel_rfl) ?_ _
              go_wp2_with fail
              go_roundw
              case rel => exact ⟨j + 1, by omega, by first | rfl | go_num, O7.out, by rw [HBS.out, HBAD.out]; rfl, DZ4.out.trans (by rw [SZ.out]; exact D7.out)⟩
              case measure => simp only [intOf]; omega
      · have hlt' : ¬ (j : Int) < n := by omega
        obtain rfl : j = n := by omega
        obtain ⟨m, hm⟩ : ∃ m, (treeUp L j j).length = m := ⟨_, rfl⟩
        obtain ⟨A2, c2, rfl, hr2, hc2, hn2⟩ := O1.out.rdn hm
        have HML := bx hm
        clear hr2 hm
        go_wp2_with fail
        by_cases hf : m ≤ 16384
        · have HT : Bx (treeO L j = (2, treeUp L j j, 0)) := ⟨by rw [treeO, if_neg hbig, if_neg (by rw [HBAD.out]; decide), fitO, if_neg (by rw [HML.out]; omega)]⟩
          refine (fit_ok 2 A2 m c2 _ hf).mono ?_
          rintro e w2 ⟨rfl, hb⟩
          have O2 := bx (O1.out.kept hb); have D2 := bx (D1.out.trans (hb.mono D1.out.size))
          have K2 := bx ((D2.out.block _ (blk_lt K0.out)).trans K0.out)
          have N2 := bx hn2; have C2 := bx hc2
          clear hb hn2 hc2
          go_wp2_with (first
            | ((with_reducible refine at_store (.tmp 2) (.tmp 59) ?_); go_must (refine store_all (cs := objC 2 (.slice A2 m c2)) 35 (.tmp 2) (.tmp 59) rfl rfl rfl rfl K2.out (obj_is _ _ _ _) rfl (obj_one _ _ _ _) ?_; intro w9 hu9; have O9 := bx (O2.out.upd hu9 (Nat.lt_succ_self _)); have B9 := bx (B0.out.trans ((D2.out.mono B0.out.size).trans (hu9.below (Nat.le_refl _)))); have R9 := bx hu9.same; clear hu9)))
          refine bodyPost_ret (results_ct (cs := objC 2 (.slice A2 m c2)) rfl _ _ w.heap.size 35 _ _ rfl rfl R9.out Tryd.underlying35 rfl (obj_is _ _ _ _)) rfl ?_
          have hm := HML.out
          subst hm
          obtain ⟨A9, c9, e9, hr9, _⟩ := O9.out.rdn rfl
          simp only [Value.slice.injEq, true_and] at e9
          obtain ⟨rfl, rfl⟩ := e9
          exact HOUT.out (2, treeUp L j j, 0) A2 c2 _ HT.out hr9 N2.out C2.out B9.out
        · have HT : Bx (treeO L j = (0, [], 3)) := ⟨by rw [treeO, if_neg hbig, if_neg (by rw [HBAD.out]; decide), fitO, if_pos (by rw [HML.out]; omega)]⟩
          refine (fit_big 2 A2 m c2 _ (by omega)).mono ?_
          rintro e w2 ⟨rfl, hb⟩
          have D2 := bx (D1.out.trans (hb.mono D1.out.size))
          have K2 := bx ((D2.out.block _ (blk_lt K0.out)).trans K0.out)
          clear hb hn2 hc2
          go_wp2_with (first
            | ((with_reducible refine at_store (.tmp 2) (.tmp 59) ?_); go_must (refine store_all (cs := objC 0 (.slice none 0 0)) 35 (.tmp 2) (.tmp 59) rfl rfl rfl rfl K2.out (obj_is _ _ _ _) rfl (obj_one _ _ _ _) ?_; intro w9 hu9; have B9 := bx (B0.out.trans ((D2.out.mono B0.out.size).trans (hu9.below (Nat.le_refl _)))); have R9 := bx hu9.same; clear hu9)))
          refine bodyPost_ret (results_ct (cs := objC 0 (.slice none 0 0)) rfl _ _ w.heap.size 35 _ _ rfl rfl R9.out Tryd.underlying35 rfl (obj_is _ _ _ _)) rfl ?_
          exact HOUT.out (0, [], 3) none 0 _ HT.out ⟨rfl, fun h => absurd h (by decide)⟩ (fun _ => rfl) (Nat.le_refl _) B9.out
end Go.Proofs.YtoompcgdhokdlaaDoor

set_option linter.unusedSimpArgs false
set_option linter.unusedVariables false
namespace Go.Proofs.YtoompcgdhokdlaaDoor
open Go.RowKit

set_option maxRecDepth 100000 in
set_option maxHeartbeats 400000 in
theorem bclone_any (ad : Addr) (n cap : Nat) (bs : List Int) (w : World) (hrd : RdB w (some ad) n bs) (hn : n ≤ 1099511627776) :
    Calls Tryd.prog 40 #[.slice (some ad) n cap] w fun e w' => ∃ r, e = .returned r ∧ OwB w' w.heap.size r bs ∧ Below w.heap.size w w' := by
  have HR := bx hrd
  have he := eql_nil w (some ad) n cap
  clear hrd
  go_enter Tryd.func40, Tryd.ntmps40
  go_wp2_with (first
    | ((with_reducible refine at_call 7 ?_); go_must (refine wpList_app rfl (.tmp 5) (.tmp 6) rfl w.heap.size _ [] rfl (OwB.made w w.heap.size [] (Nat.le_refl _) (by decide)) (some ad) n cap bs rfl (HR.out.below ((Below.refl _ _).alloc (Nat.le_refl _) _)) (fun h => by cases h) (by simp; omega) (by simp) ?_; intro v' w' h1 h2; rw [List.nil_append] at h1; have O1 := bx h1; have D1 := bx ((OwB.made w w.heap.size [] (Nat.le_refl _) (by decide)).below h2 ((Below.refl w.heap.size w).alloc (Nat.le_refl _) _) (Nat.le_refl _) (by simp)); clear h1 h2)))
  go_ret
  exact ⟨_, rfl, O1.out, D1.out⟩
/-- A note. -/
def markCells (id : List Int) (name text : ByteArray) : List Value := u8s id ++ [.string name, .string text]
def markD (id : List Int) (name text : ByteArray) : List Int := id ++ textB name ++ textB text
def markO (id : List Int) (name text : ByteArray) : Int × List Int × Int := if kindB name.data.toList ≠ 2 then (0, [], 2) else fitO 4 (markD id name text)
theorem mark_get {id : List Int} (h : id.length = 32) (name text : ByteArray) : (markCells id name text).toArray[32]? = some (.string name) ∧ (markCells id name text).toArray[33]? = some (.string text) := by
  have e : (u8s id).length = 32 := by rw [u8s_length, h]
  constructor
  · rw [List.getElem?_toArray, markCells, List.getElem?_append_right (by omega), e]; rfl
  · rw [List.getElem?_toArray, markCells, List.getElem?_append_right (by omega), e]; rfl
theorem cells_rd {w : World} {b : Nat} {l pre : List Value} {id : List Int} {post : List Value} {T : TypeId} (hk : w.heap[b]? = some (.cells l.toArray T (0, 0))) (hl : l = pre ++ u8s id ++ post) : RdB w (some ⟨b, pre.length, none⟩) id.length id := by
  have h9 := row_rdB (w := w) (b := b) (o := 0) (l := l) (pre := pre) (id := id) (post := post) (fun q v hv => by rw [Nat.zero_add]; exact blk_cell hk (by simpa using hv)) hl (blk_lt hk)
  rw [Nat.zero_add] at h9
  exact h9
set_option maxRecDepth 100000 in
set_option maxHeartbeats 2000000 in
theorem ofmark_any (id : List Int) (name text : ByteArray) (w : World) (hM : MaxAt w) (hid : id.length = 32) (hnm : name.size < 4294967281) :
    Calls Tryd.prog 13 #[.agg (markCells id name text).toArray] w (ObjO w (markO id name text)) := by
  obtain ⟨w0, hw0⟩ : ∃ w0, w0 = (w.alloc (.cells (markCells id name text).toArray 30)).alloc (.cells (objC 0 (.slice none 0 0)) 35) := ⟨_, rfl⟩
  have K0 : Bx (w0.heap[w.heap.size]? = some (.cells (markCells id name text).toArray 30 (0, 0))) := ⟨by rw [hw0]; exact heap_alloc2_old w _ _⟩
  have K1 : Bx (w0.heap[w.heap.size + 1]? = some (.cells (objC 0 (.slice none 0 0)) 35 (0, 0))) := ⟨by rw [hw0]; exact heap_alloc2_new w _ _⟩
  have B0 : Bx (Below w.heap.size w w0) := ⟨by rw [hw0]; exact ((Below.refl _ _).alloc (Nat.le_refl _) _).alloc (by simp) _⟩
  have SZ : Bx (w0.heap.size = w.heap.size + 2) := ⟨by rw [hw0]; simp⟩
  have LIT : Bx ((w.alloc (.cells (markCells id name text).toArray 30)).alloc (.cells #[.int .i64 0, .slice none 0 0] 35) = w0) := ⟨hw0.symm⟩
  have HC : Bx (∀ w', Below (w.heap.size + 1) w0 w' → w'.cell? ⟨w.heap.size, 32, none⟩ = some (.string name) ∧ w'.cell? ⟨w.heap.size, 33, none⟩ = some (.string text)) := ⟨fun w' hb => by
    have hk := (hb.block _ (by omega)).trans K0.out
    exact ⟨blk_cell hk (mark_get hid name text).1, blk_cell hk (mark_get hid name text).2⟩⟩
  have HRD : Bx (∀ w', Below (w.heap.size + 1) w0 w' → RdB w' (some ⟨w.heap.size, 0, none⟩) 32 id) := ⟨fun w' hb => by
    have hk := (hb.block _ (by omega)).trans K0.out
    have h9 := cells_rd hk (pre := []) (id := id) (post := [.string name, .string text]) rfl
    rw [hid] at h9
    exact h9⟩
  have sl := arr_slice_all (P := Tryd.prog) (t := 24) Tryd.underlying24 Tryd.sizeOf5 w.heap.size 0
  have HKD := bx (kind_any name w0 (hM.below B0.out) hnm)
  have z0 := (HC.out w0 (Below.refl _ _)).1
  have HOUT : Bx (∀ (r : Int × List Int × Int) A c w', markO id name text = r → RdB w' A r.2.1.length r.2.1 → (A = none → c = 0) → r.2.1.length ≤ c → Below w.heap.size w w' → ObjO w (markO id name text) (.returned (.tuple #[.agg (objC r.1 (.slice A r.2.1.length c)), .int .i64 r.2.2])) w') := ⟨fun r A c w' hr h1 h2 h3 h4 => by subst hr; exact ⟨A, c, rfl, h1, h2, h3, h4⟩⟩
  have HID := bx hid
  clear hw0 hM hnm hid
  generalize ObjO w (markO id name text) = OUT at *
  obtain ⟨kd, hkd⟩ : ∃ kd, kindB name.data.toList = kd := ⟨_, rfl⟩
  rw [hkd] at HKD
  by_cases h2 : kd = 2
  · subst h2
    obtain ⟨m, hm⟩ : ∃ m, (markD id name text).length = m := ⟨_, rfl⟩
    have HML := bx hm
    have HMF : Bx (m ≤ 32810) := ⟨by rw [← hm, markD, List.length_append, List.length_append, HID.out]; have := textB_length name; have := textB_length text; omega⟩
    have HL1 : Bx ((id ++ textB name).length ≤ 1048576) := ⟨by rw [List.length_append, HID.out]; have := textB_length name; omega⟩
    obtain ⟨n1, hn1⟩ : ∃ n1, (id ++ textB name).length = n1 := ⟨_, rfl⟩
    have HN1 := bx hn1
    have HD : Bx (markD id name text = id ++ textB name ++ textB text) := ⟨rfl⟩
    rw [hn1] at HL1
    have HT1 : Bx (m ≤ 16384 → markO id name text = (4, markD id name text, 0)) := ⟨fun hf => by rw [markO, if_neg (by rw [hkd]; decide), fitO, if_neg (by rw [HML.out]; omega)]⟩
    have HT2 : Bx (¬ m ≤ 16384 → markO id name text = (0, [], 3)) := ⟨fun hf => by rw [markO, if_neg (by rw [hkd]; decide), fitO, if_pos (by rw [HML.out]; omega)]⟩
    clear hm hn1 hkd
    by_cases hf : m ≤ 16384
    · have HT := bx (HT1.out hf)
      have HF := bx hf
      clear HT1 HT2 hf
      go_enter Tryd.func13, Tryd.ntmps13
      go_upto_region 1 with fail
      rw [LIT.out]
      clear LIT
      go_wp2_with fail
      refine HKD.out.mono ?_
      rintro e w1 ⟨rfl, hb1⟩
      have hS1 : Below (w.heap.size + 1) w0 w1 := hb1.mono (by rw [SZ.out]; omega)
      have KR1 := bx ((hb1.block _ (blk_lt K1.out)).trans K1.out)
      have LS1 := bx (show w.heap.size + 2 ≤ w1.heap.size from SZ.out ▸ hb1.size)
      clear hb1 HKD z0
      go_wp2_with fail
      have hS0 : Below (w.heap.size + 1) w0 w1.drew ∧ w.heap.size + 2 ≤ w1.drew.heap.size ∧ ∃ old : Array Value, old.size = 2 ∧ w1.drew.heap[w.heap.size + 1]? = some (.cells old 35 (0, 0)) := ⟨hS1.drew, LS1.out, _, rfl, KR1.out⟩
      refine wp_region_held_drew (S := (fun w' => Below (w.heap.size + 1) w0 w' ∧ w.heap.size + 2 ≤ w'.heap.size ∧ ∃ old : Array Value, old.size = 2 ∧ w'.heap[w.heap.size + 1]? = some (.cells old 35 (0, 0)))) (by kernel_rfl) hS0 (fun hS => ?_)
      refine takeH (i := 0) (d := 9) (v := ?_) rfl rfl (by kernel_rfl) (by kernel_rfl) (by kernel_rfl) (fun _ _ _ h => h) (Or.inl ⟨by kernel_rfl, ?_⟩) hS ?_; rotate_left 1; (focus ((intro w' hS'; clear hS'; go_simp; try with_reducible rfl); done))
      try simp only [List.setIfInBounds_toArray, List.set_cons_zero, List.set_cons_succ]
      refine takeH (i := 1) (d := 10) (v := ?_) rfl rfl (by kernel_rfl) (by kernel_rfl) (by kernel_rfl) (fun _ _ _ h => h) (Or.inl ⟨by kernel_rfl, ?_⟩) hS ?_; rotate_left 1; (focus ((intro w' hS'; clear hS'; go_simp; try with_reducible rfl); done))
      try simp only [List.setIfInBounds_toArray, List.set_cons_zero, List.set_cons_succ]
      refine takeH (i := 3) (d := 12) (v := ?_) rfl rfl (by kernel_rfl) (by kernel_rfl) (by kernel_rfl) (fun _ _ _ h => h) (Or.inl ⟨by kernel_rfl, ?_⟩) hS ?_; rotate_left 1; (focus ((intro w' hS'; clear hS'; go_simp; try with_reducible rfl); done))
      try simp only [List.setIfInBounds_toArray, List.set_cons_zero, List.set_cons_succ]
      refine takeH (i := 4) (d := 13) (v := ?_) rfl rfl (by kernel_rfl) (by kernel_rfl) (by kernel_rfl) (fun _ _ _ h => h) (Or.inl ⟨by kernel_rfl, ?_⟩) hS ?_; rotate_left 1; (focus ((intro w' hS'; obtain ⟨z0, z1⟩ := HC.out w' hS'.1; clear hS'; go_simp; try with_reducible rfl); done))
      try simp only [List.setIfInBounds_toArray, List.set_cons_zero, List.set_cons_succ]
      refine takeH (i := 6) (d := 15) (v := ?_) rfl rfl (by kernel_rfl) (by kernel_rfl) (by kernel_rfl) (fun _ _ _ h => h) (Or.inl ⟨by kernel_rfl, ?_⟩) hS ?_; rotate_left 1; (focus ((intro w' hS'; clear hS'; go_simp; try with_reducible rfl); done))
      try simp only [List.setIfInBounds_toArray, List.set_cons_zero, List.set_cons_succ]
      refine takeH (i := 7) (d := 16) (v := ?_) rfl rfl (by kernel_rfl) (by kernel_rfl) (by kernel_rfl) (fun _ _ _ h => h) (Or.inl ⟨by kernel_rfl, ?_⟩) hS ?_; rotate_left 1; (focus ((intro w' hS'; obtain ⟨z0, z1⟩ := HC.out w' hS'.1; clear hS'; go_simp; try with_reducible rfl); done))
      try simp only [List.setIfInBounds_toArray, List.set_cons_zero, List.set_cons_succ]
      refine wpAnyH_ready (rs := [2]) (by kernel_rfl) (by simp) ?_
      refine AllReadyH.cons rfl (fun K hK => ?_) AllReadyH.nil
      go_simp
      refine (bclone_any ⟨w.heap.size, 0, none⟩ 32 32 id _ (HRD.out _ hS.1) (by decide)).mono ?_
      rintro x w2 ⟨v2, rfl, ho, hb⟩
      obtain ⟨A2, c2, rfl, hr2, _, hn2⟩ := ho.rdn HID.out
      have R2 := bx hr2; have N2 := bx hn2
      have S2 := bx (show Below (w.heap.size + 1) w0 w2 ∧ w.heap.size + 2 ≤ w2.heap.size ∧ ∃ old : Array Value, old.size = 2 ∧ w2.heap[w.heap.size + 1]? = some (.cells old 35 (0, 0)) from ⟨hS.1.trans (hb.mono (by have := hS.2.1; omega)), Nat.le_trans hS.2.1 hb.size, by obtain ⟨old, h7, hk⟩ := hS.2.2; exact ⟨old, h7, (hb.block _ (blk_lt hk)).trans hk⟩⟩)
      clear ho hr2 hn2 hb
      refine hK.out _ _ ?_ (fun hS2 => ?_)
      · exact S2.out
      clear hK K hS; have hS := hS2; clear hS2
      try simp only [Act.put, List.setIfInBounds_toArray, List.set_cons_zero, List.set_cons_succ]
      refine wpAnyH_ready (rs := [5]) (by kernel_rfl) (by simp) ?_
      refine AllReadyH.cons rfl (fun K hK => ?_) AllReadyH.nil
      go_simp
      refine (text_any A2 32 c2 id name _ R2.out N2.out (by decide)).mono ?_
      rintro x w3 ⟨v3, rfl, ho, hb⟩
      obtain ⟨A3, c3, rfl, hr3, _, hn3⟩ := ho.rdn HN1.out
      have R3 := bx hr3; have N3 := bx hn3
      have S3 := bx (show Below (w.heap.size + 1) w0 w3 ∧ w.heap.size + 2 ≤ w3.heap.size ∧ ∃ old : Array Value, old.size = 2 ∧ w3.heap[w.heap.size + 1]? = some (.cells old 35 (0, 0)) from ⟨hS.1.trans (hb.mono (by have := hS.2.1; omega)), Nat.le_trans hS.2.1 hb.size, by obtain ⟨old, h7, hk⟩ := hS.2.2; exact ⟨old, h7, (hb.block _ (blk_lt hk)).trans hk⟩⟩)
      clear ho hr3 hn3 hb
      refine hK.out _ _ ?_ (fun hS2 => ?_)
      · exact S3.out
      clear hK K hS; have hS := hS2; clear hS2
      try simp only [Act.put, List.setIfInBounds_toArray, List.set_cons_zero, List.set_cons_succ]
      refine wpAnyH_ready (rs := [8]) (by kernel_rfl) (by simp) ?_
      refine AllReadyH.cons rfl (fun K hK => ?_) AllReadyH.nil
      go_simp
      refine (text_any A3 n1 c3 _ text _ R3.out N3.out HL1.out).mono ?_
      rintro x w4 ⟨v4, rfl, ho, hb⟩
      have O4 := bx (ho.base_le hS.2.1)
      obtain ⟨A4, c4, rfl, _, hc4, hn4⟩ := ho.rdn (show _ = m by rw [← HD.out]; exact HML.out)
      have C4 := bx hc4; have N4 := bx hn4
      have S4 := bx (show Below (w.heap.size + 1) w0 w4 ∧ w.heap.size + 2 ≤ w4.heap.size ∧ ∃ old : Array Value, old.size = 2 ∧ w4.heap[w.heap.size + 1]? = some (.cells old 35 (0, 0)) from ⟨hS.1.trans (hb.mono (by have := hS.2.1; omega)), Nat.le_trans hS.2.1 hb.size, by obtain ⟨old, h7, hk⟩ := hS.2.2; exact ⟨old, h7, (hb.block _ (blk_lt hk)).trans hk⟩⟩)
      clear ho hc4 hn4 hb
      refine hK.out _ _ ?_ (fun hS2 => ?_)
      · exact S4.out
      clear hK K hS; have hS := hS2; clear hS2
      try simp only [Act.put, List.setIfInBounds_toArray, List.set_cons_zero, List.set_cons_succ]
      refine wpAnyH_ready (rs := [9]) (by kernel_rfl) (by simp) ?_
      refine AllReadyH.cons rfl (fun K hK => ?_) AllReadyH.nil
      go_simp
      refine (fit_ok 4 A4 m c4 _ HF.out).mono ?_
      rintro x w5 ⟨rfl, hb⟩
      have O5 := bx (O4.out.kept hb)
      have S5 := bx (show Below (w.heap.size + 1) w0 w5 ∧ w.heap.size + 2 ≤ w5.heap.size ∧ ∃ old : Array Value, old.size = 2 ∧ w5.heap[w.heap.size + 1]? = some (.cells old 35 (0, 0)) from ⟨hS.1.trans (hb.mono (by have := hS.2.1; omega)), Nat.le_trans hS.2.1 hb.size, by obtain ⟨old, h7, hk⟩ := hS.2.2; exact ⟨old, h7, (hb.block _ (blk_lt hk)).trans hk⟩⟩)
      clear hb
      refine hK.out _ _ ?_ (fun hS2 => ?_)
      · exact S5.out
      clear hK K hS; have hS := hS2; clear hS2
      try simp only [Act.put, List.setIfInBounds_toArray, List.set_cons_zero, List.set_cons_succ]
      refine takeH (i := 10) (d := 19) (v := ?_) rfl rfl (by kernel_rfl) (by kernel_rfl) (by kernel_rfl) (fun _ _ _ h => h) (Or.inl ⟨by kernel_rfl, ?_⟩) hS ?_; rotate_left 1; (focus ((intro w' hS'; clear hS'; go_simp; try with_reducible rfl); done))
      try simp only [List.setIfInBounds_toArray, List.set_cons_zero, List.set_cons_succ]
      refine takeH (i := 11) (d := 20) (v := ?_) rfl rfl (by kernel_rfl) (by kernel_rfl) (by kernel_rfl) (fun _ _ _ h => h) (Or.inl ⟨by kernel_rfl, ?_⟩) hS ?_; rotate_left 1; (focus ((intro w' hS'; clear hS'; go_simp; try with_reducible rfl); done))
      try simp only [List.setIfInBounds_toArray, List.set_cons_zero, List.set_cons_succ]
      refine wpAnyH_ready (rs := [12]) (by kernel_rfl) (by simp) ?_
      refine readyH_list rfl (fun K hK => ?_) AllReadyH.nil
      obtain ⟨old, h7, hk⟩ := S5.out.2.2
      refine store_all (cs := objC 4 (.slice A4 m c4)) 35 (.tmp 2) (.tmp 19) rfl rfl rfl rfl hk (obj_is _ _ _ _) (by rw [h7]; rfl) (obj_one _ _ _ _) ?_
      intro w9 hu9
      have R9 := bx hu9.same; have O9 := bx (O5.out.upd hu9 (Nat.lt_succ_self _)); have BF := bx (S5.out.1.trans (hu9.below (Nat.le_refl _))); have L9 := bx (show w.heap.size + 2 ≤ w9.heap.size by rw [hu9.size]; exact S5.out.2.1)
      clear hu9 hk h7
      show wpList _ _ K [] (Act.put _ none undef) w9
      refine hK.out _ _ ?_ (fun hS2 => ?_)
      · exact ⟨BF.out, L9.out, _, rfl, R9.out⟩
      clear hK K hS; have hS := hS2; clear hS2
      try simp only [Act.put, List.setIfInBounds_toArray, List.set_cons_zero, List.set_cons_succ]
      refine takeH (i := 13) (d := 3) (v := ?_) rfl rfl (by kernel_rfl) (by kernel_rfl) (by kernel_rfl) (fun _ _ _ h => h) (Or.inl ⟨by kernel_rfl, ?_⟩) hS ?_; rotate_left 1; (focus ((intro w' hS'; clear hS'; go_simp; try with_reducible rfl); done))
      try simp only [List.setIfInBounds_toArray, List.set_cons_zero, List.set_cons_succ]
      refine wpAnyH_done (by kernel_rfl) ?_ _
      go_wp2_with fail
      refine bodyPost_ret (results_ct (cs := objC 4 (.slice A4 m c4)) rfl _ _ (w.heap.size + 1) 35 _ _ rfl rfl R9.out Tryd.underlying35 rfl (obj_is _ _ _ _)) rfl ?_
      have hm := HML.out
      subst hm
      obtain ⟨A9, c9, e9, hr9, _⟩ := O9.out.rdn (show _ = (markD id name text).length by rw [HD.out])
      simp only [Value.slice.injEq, true_and] at e9
      obtain ⟨rfl, rfl⟩ := e9
      exact HOUT.out (4, markD id name text, 0) A4 c4 _ HT.out hr9 N4.out C4.out (B0.out.trans (BF.out.mono (by omega)))
    · have HT := bx (HT2.out hf)
      have HF := bx (show 16384 < m by omega)
      clear HT1 HT2 hf
      go_enter Tryd.func13, Tryd.ntmps13
      go_upto_region 1 with fail
      rw [LIT.out]
      clear LIT
      go_wp2_with fail
      refine HKD.out.mono ?_
      rintro e w1 ⟨rfl, hb1⟩
      have hS1 : Below (w.heap.size + 1) w0 w1 := hb1.mono (by rw [SZ.out]; omega)
      have KR1 := bx ((hb1.block _ (blk_lt K1.out)).trans K1.out)
      have LS1 := bx (show w.heap.size + 2 ≤ w1.heap.size from SZ.out ▸ hb1.size)
      clear hb1 HKD z0
      go_wp2_with fail
      have hS0 : Below (w.heap.size + 1) w0 w1.drew ∧ w.heap.size + 2 ≤ w1.drew.heap.size ∧ ∃ old : Array Value, old.size = 2 ∧ w1.drew.heap[w.heap.size + 1]? = some (.cells old 35 (0, 0)) := ⟨hS1.drew, LS1.out, _, rfl, KR1.out⟩
      refine wp_region_held_drew (S := (fun w' => Below (w.heap.size + 1) w0 w' ∧ w.heap.size + 2 ≤ w'.heap.size ∧ ∃ old : Array Value, old.size = 2 ∧ w'.heap[w.heap.size + 1]? = some (.cells old 35 (0, 0)))) (by kernel_rfl) hS0 (fun hS => ?_)
      refine takeH (i := 0) (d := 9) (v := ?_) rfl rfl (by kernel_rfl) (by kernel_rfl) (by kernel_rfl) (fun _ _ _ h => h) (Or.inl ⟨by kernel_rfl, ?_⟩) hS ?_; rotate_left 1; (focus ((intro w' hS'; clear hS'; go_simp; try with_reducible rfl); done))
      try simp only [List.setIfInBounds_toArray, List.set_cons_zero, List.set_cons_succ]
      refine takeH (i := 1) (d := 10) (v := ?_) rfl rfl (by kernel_rfl) (by kernel_rfl) (by kernel_rfl) (fun _ _ _ h => h) (Or.inl ⟨by kernel_rfl, ?_⟩) hS ?_; rotate_left 1; (focus ((intro w' hS'; clear hS'; go_simp; try with_reducible rfl); done))
      try simp only [List.setIfInBounds_toArray, List.set_cons_zero, List.set_cons_succ]
      refine takeH (i := 3) (d := 12) (v := ?_) rfl rfl (by kernel_rfl) (by kernel_rfl) (by kernel_rfl) (fun _ _ _ h => h) (Or.inl ⟨by kernel_rfl, ?_⟩) hS ?_; rotate_left 1; (focus ((intro w' hS'; clear hS'; go_simp; try with_reducible rfl); done))
      try simp only [List.setIfInBounds_toArray, List.set_cons_zero, List.set_cons_succ]
      refine takeH (i := 4) (d := 13) (v := ?_) rfl rfl (by kernel_rfl) (by kernel_rfl) (by kernel_rfl) (fun _ _ _ h => h) (Or.inl ⟨by kernel_rfl, ?_⟩) hS ?_; rotate_left 1; (focus ((intro w' hS'; obtain ⟨z0, z1⟩ := HC.out w' hS'.1; clear hS'; go_simp; try with_reducible rfl); done))
      try simp only [List.setIfInBounds_toArray, List.set_cons_zero, List.set_cons_succ]
      refine takeH (i := 6) (d := 15) (v := ?_) rfl rfl (by kernel_rfl) (by kernel_rfl) (by kernel_rfl) (fun _ _ _ h => h) (Or.inl ⟨by kernel_rfl, ?_⟩) hS ?_; rotate_left 1; (focus ((intro w' hS'; clear hS'; go_simp; try with_reducible rfl); done))
      try simp only [List.setIfInBounds_toArray, List.set_cons_zero, List.set_cons_succ]
      refine takeH (i := 7) (d := 16) (v := ?_) rfl rfl (by kernel_rfl) (by kernel_rfl) (by kernel_rfl) (fun _ _ _ h => h) (Or.inl ⟨by kernel_rfl, ?_⟩) hS ?_; rotate_left 1; (focus ((intro w' hS'; obtain ⟨z0, z1⟩ := HC.out w' hS'.1; clear hS'; go_simp; try with_reducible rfl); done))
      try simp only [List.setIfInBounds_toArray, List.set_cons_zero, List.set_cons_succ]
      refine wpAnyH_ready (rs := [2]) (by kernel_rfl) (by simp) ?_
      refine AllReadyH.cons rfl (fun K hK => ?_) AllReadyH.nil
      go_simp
      refine (bclone_any ⟨w.heap.size, 0, none⟩ 32 32 id _ (HRD.out _ hS.1) (by decide)).mono ?_
      rintro x w2 ⟨v2, rfl, ho, hb⟩
      obtain ⟨A2, c2, rfl, hr2, _, hn2⟩ := ho.rdn HID.out
      have R2 := bx hr2; have N2 := bx hn2
      have S2 := bx (show Below (w.heap.size + 1) w0 w2 ∧ w.heap.size + 2 ≤ w2.heap.size ∧ ∃ old : Array Value, old.size = 2 ∧ w2.heap[w.heap.size + 1]? = some (.cells old 35 (0, 0)) from ⟨hS.1.trans (hb.mono (by have := hS.2.1; omega)), Nat.le_trans hS.2.1 hb.size, by obtain ⟨old, h7, hk⟩ := hS.2.2; exact ⟨old, h7, (hb.block _ (blk_lt hk)).trans hk⟩⟩)
      clear ho hr2 hn2 hb
      refine hK.out _ _ ?_ (fun hS2 => ?_)
      · exact S2.out
      clear hK K hS; have hS := hS2; clear hS2
      try simp only [Act.put, List.setIfInBounds_toArray, List.set_cons_zero, List.set_cons_succ]
      refine wpAnyH_ready (rs := [5]) (by kernel_rfl) (by simp) ?_
      refine AllReadyH.cons rfl (fun K hK => ?_) AllReadyH.nil
      go_simp
      refine (text_any A2 32 c2 id name _ R2.out N2.out (by decide)).mono ?_
      rintro x w3 ⟨v3, rfl, ho, hb⟩
      obtain ⟨A3, c3, rfl, hr3, _, hn3⟩ := ho.rdn HN1.out
      have R3 := bx hr3; have N3 := bx hn3
      have S3 := bx (show Below (w.heap.size + 1) w0 w3 ∧ w.heap.size + 2 ≤ w3.heap.size ∧ ∃ old : Array Value, old.size = 2 ∧ w3.heap[w.heap.size + 1]? = some (.cells old 35 (0, 0)) from ⟨hS.1.trans (hb.mono (by have := hS.2.1; omega)), Nat.le_trans hS.2.1 hb.size, by obtain ⟨old, h7, hk⟩ := hS.2.2; exact ⟨old, h7, (hb.block _ (blk_lt hk)).trans hk⟩⟩)
      clear ho hr3 hn3 hb
      refine hK.out _ _ ?_ (fun hS2 => ?_)
      · exact S3.out
      clear hK K hS; have hS := hS2; clear hS2
      try simp only [Act.put, List.setIfInBounds_toArray, List.set_cons_zero, List.set_cons_succ]
      refine wpAnyH_ready (rs := [8]) (by kernel_rfl) (by simp) ?_
      refine AllReadyH.cons rfl (fun K hK => ?_) AllReadyH.nil
      go_simp
      refine (text_any A3 n1 c3 _ text _ R3.out N3.out HL1.out).mono ?_
      rintro x w4 ⟨v4, rfl, ho, hb⟩
      have O4 := bx (ho.base_le hS.2.1)
      obtain ⟨A4, c4, rfl, _, hc4, hn4⟩ := ho.rdn (show _ = m by rw [← HD.out]; exact HML.out)
      have C4 := bx hc4; have N4 := bx hn4
      have S4 := bx (show Below (w.heap.size + 1) w0 w4 ∧ w.heap.size + 2 ≤ w4.heap.size ∧ ∃ old : Array Value, old.size = 2 ∧ w4.heap[w.heap.size + 1]? = some (.cells old 35 (0, 0)) from ⟨hS.1.trans (hb.mono (by have := hS.2.1; omega)), Nat.le_trans hS.2.1 hb.size, by obtain ⟨old, h7, hk⟩ := hS.2.2; exact ⟨old, h7, (hb.block _ (blk_lt hk)).trans hk⟩⟩)
      clear ho hc4 hn4 hb
      refine hK.out _ _ ?_ (fun hS2 => ?_)
      · exact S4.out
      clear hK K hS; have hS := hS2; clear hS2
      try simp only [Act.put, List.setIfInBounds_toArray, List.set_cons_zero, List.set_cons_succ]
      refine wpAnyH_ready (rs := [9]) (by kernel_rfl) (by simp) ?_
      refine AllReadyH.cons rfl (fun K hK => ?_) AllReadyH.nil
      go_simp
      refine (fit_big 4 A4 m c4 _ HF.out).mono ?_
      rintro x w5 ⟨rfl, hb⟩
      have O5 := bx (O4.out.kept hb)
      have S5 := bx (show Below (w.heap.size + 1) w0 w5 ∧ w.heap.size + 2 ≤ w5.heap.size ∧ ∃ old : Array Value, old.size = 2 ∧ w5.heap[w.heap.size + 1]? = some (.cells old 35 (0, 0)) from ⟨hS.1.trans (hb.mono (by have := hS.2.1; omega)), Nat.le_trans hS.2.1 hb.size, by obtain ⟨old, h7, hk⟩ := hS.2.2; exact ⟨old, h7, (hb.block _ (blk_lt hk)).trans hk⟩⟩)
      clear hb
      refine hK.out _ _ ?_ (fun hS2 => ?_)
      · exact S5.out
      clear hK K hS; have hS := hS2; clear hS2
      try simp only [Act.put, List.setIfInBounds_toArray, List.set_cons_zero, List.set_cons_succ]
      refine takeH (i := 10) (d := 19) (v := ?_) rfl rfl (by kernel_rfl) (by kernel_rfl) (by kernel_rfl) (fun _ _ _ h => h) (Or.inl ⟨by kernel_rfl, ?_⟩) hS ?_; rotate_left 1; (focus ((intro w' hS'; clear hS'; go_simp; try with_reducible rfl); done))
      try simp only [List.setIfInBounds_toArray, List.set_cons_zero, List.set_cons_succ]
      refine takeH (i := 11) (d := 20) (v := ?_) rfl rfl (by kernel_rfl) (by kernel_rfl) (by kernel_rfl) (fun _ _ _ h => h) (Or.inl ⟨by kernel_rfl, ?_⟩) hS ?_; rotate_left 1; (focus ((intro w' hS'; clear hS'; go_simp; try with_reducible rfl); done))
      try simp only [List.setIfInBounds_toArray, List.set_cons_zero, List.set_cons_succ]
      refine wpAnyH_ready (rs := [12]) (by kernel_rfl) (by simp) ?_
      refine readyH_list rfl (fun K hK => ?_) AllReadyH.nil
      obtain ⟨old, h7, hk⟩ := S5.out.2.2
      refine store_all (cs := objC 0 (.slice none 0 0)) 35 (.tmp 2) (.tmp 19) rfl rfl rfl rfl hk (obj_is _ _ _ _) (by rw [h7]; rfl) (obj_one _ _ _ _) ?_
      intro w9 hu9
      have R9 := bx hu9.same; have O9 := bx (O5.out.upd hu9 (Nat.lt_succ_self _)); have BF := bx (S5.out.1.trans (hu9.below (Nat.le_refl _))); have L9 := bx (show w.heap.size + 2 ≤ w9.heap.size by rw [hu9.size]; exact S5.out.2.1)
      clear hu9 hk h7
      show wpList _ _ K [] (Act.put _ none undef) w9
      refine hK.out _ _ ?_ (fun hS2 => ?_)
      · exact ⟨BF.out, L9.out, _, rfl, R9.out⟩
      clear hK K hS; have hS := hS2; clear hS2
      try simp only [Act.put, List.setIfInBounds_toArray, List.set_cons_zero, List.set_cons_succ]
      refine takeH (i := 13) (d := 3) (v := ?_) rfl rfl (by kernel_rfl) (by kernel_rfl) (by kernel_rfl) (fun _ _ _ h => h) (Or.inl ⟨by kernel_rfl, ?_⟩) hS ?_; rotate_left 1; (focus ((intro w' hS'; clear hS'; go_simp; try with_reducible rfl); done))
      try simp only [List.setIfInBounds_toArray, List.set_cons_zero, List.set_cons_succ]
      refine wpAnyH_done (by kernel_rfl) ?_ _
      go_wp2_with fail
      refine bodyPost_ret (results_ct (cs := objC 0 (.slice none 0 0)) rfl _ _ (w.heap.size + 1) 35 _ _ rfl rfl R9.out Tryd.underlying35 rfl (obj_is _ _ _ _)) rfl ?_
      exact HOUT.out (0, [], 3) none 0 _ HT.out ⟨rfl, fun h => absurd h (by decide)⟩ (fun _ => rfl) (Nat.le_refl _) (B0.out.trans (BF.out.mono (by omega)))
  · have HT : Bx (markO id name text = (0, [], 2)) := ⟨by rw [markO, hkd, if_pos h2]⟩
    have hkb : (kd == 2) = false := by simp [h2]
    have hkn : (kd != 2) = true := by simp [h2]
    clear hkd
    go_enter Tryd.func13, Tryd.ntmps13
    go_upto_region 1 with fail
    rw [LIT.out]
    clear LIT
    go_wp2_with fail
    refine HKD.out.mono ?_
    rintro e w1 ⟨rfl, hb1⟩
    have KR1 := bx ((hb1.block _ (blk_lt K1.out)).trans K1.out)
    have B1 := bx (B0.out.trans (hb1.mono B0.out.size))
    clear hb1 HKD z0
    go_wp2_with (first
      | ((with_reducible refine at_build 8 ?_); go_must (refine wpList_build2 rfl 35 [] rfl [] rfl (objC 0 (.slice none 0 0)) obj_built0 ?_))
      | ((with_reducible refine at_store (.tmp 2) (.tmp 8) ?_); go_must (refine store_all (cs := objC 0 (.slice none 0 0)) 35 (.tmp 2) (.tmp 8) rfl rfl rfl rfl KR1.out (obj_is _ _ _ _) rfl (obj_one _ _ _ _) ?_; intro w9 hu9; have B9 := bx (B1.out.trans (hu9.below (Nat.le_succ _))); have R9 := bx hu9.same; clear hu9)))
    refine bodyPost_ret (results_ct (cs := objC 0 (.slice none 0 0)) rfl _ _ (w.heap.size + 1) 35 _ _ rfl rfl R9.out Tryd.underlying35 rfl (obj_is _ _ _ _)) rfl ?_
    exact HOUT.out (0, [], 2) none 0 _ HT.out ⟨rfl, fun h => absurd h (by decide)⟩ (fun _ => rfl) (Nat.le_refl _) B9.out
end Go.Proofs.YtoompcgdhokdlaaDoor

set_option linter.unusedSimpArgs false
set_option linter.unusedVariables false
namespace Go.Proofs.YtoompcgdhokdlaaDoor
open Go.RowKit Go.MapKept

theorem thirtytwo (l : List Int) (h : l.length = 32) : ∃ a0 a1 a2 a3 a4 a5 a6 a7 a8 a9 a10 a11 a12 a13 a14 a15 b0 b1 b2 b3 b4 b5 b6 b7 b8 b9 b10 b11 b12 b13 b14 b15, l = [a0, a1, a2, a3, a4, a5, a6, a7, a8, a9, a10, a11, a12, a13, a14, a15, b0, b1, b2, b3, b4, b5, b6, b7, b8, b9, b10, b11, b12, b13, b14, b15] := by
  match l, h with
  | [a0, a1, a2, a3, a4, a5, a6, a7, a8, a9, a10, a11, a12, a13, a14, a15, b0, b1, b2, b3, b4, b5, b6, b7, b8, b9, b10, b11, b12, b13, b14, b15], _ => exact ⟨_, _, _, _, _, _, _, _, _, _, _, _, _, _, _, _, _, _, _, _, _, _, _, _, _, _, _, _, _, _, _, _, rfl⟩
theorem key_ok (em : Bool) (x : List Int) (h : x.length = 32) (w : World) : (Instr.checkKey em 10000 24 (.agg (ints .u8 x))).run Tryd.prog w = .ok () w := by
  obtain ⟨a0, a1, a2, a3, a4, a5, a6, a7, a8, a9, a10, a11, a12, a13, a14, a15, b0, b1, b2, b3, b4, b5, b6, b7, b8, b9, b10, b11, b12, b13, b14, b15, rfl⟩ := thirtytwo x h
  kernel_rfl
/-- Block b is a set of names of objects. -/
def MapA (w : World) (b : Nat) (ids : List (List Int)) : Prop := ∃ es clock, w.heap[b]? = some (.map es clock) ∧ es.toList.map (·.key) = ids.map (fun x => Value.agg (ints .u8 x)) ∧ (∀ e ∈ es.toList, e.val = .bool true) ∧ ∀ x ∈ ids, x.length = 32
theorem MapA.same {w w' : World} {b : Nat} {ids : List (List Int)} (h : MapA w b ids) (he : w'.heap[b]? = w.heap[b]?) : MapA w' b ids := by
  obtain ⟨es, c, h, h2⟩ := h
  exact ⟨es, c, by rw [he, h], h2⟩
theorem MapA.lt {w : World} {b : Nat} {ids : List (List Int)} (h : MapA w b ids) : b < w.heap.size := by
  obtain ⟨es, c, h, _⟩ := h
  exact blk_lt h
theorem mapA_made (w : World) : MapA (w.alloc (.map #[] 0)) w.heap.size [] := ⟨#[], 0, blk_new w _, rfl, by simp, by simp⟩
set_option maxRecDepth 100000 in
theorem find_ask (x : List Int) (hx : x.length = 32) (w : World) : ∀ (ids : List (List Int)) (es : List MapEntry) (i : Nat), es.map (·.key) = ids.map (fun x => Value.agg (ints .u8 x)) → (∀ e ∈ es, e.val = .bool true) → (∀ y ∈ ids, y.length = 32) →
    ∃ j, (Instr.findAsking 24 (.agg (ints .u8 x)) es i).run Tryd.prog w = .ok (if x ∈ ids then some (j, .bool true) else none) w
  | [], [], i, _, _, _ => ⟨0, by simp [Instr.findAsking]⟩
  | [], e :: es, i, h, _, _ => by simp at h
  | y :: ids, [], i, h, _, _ => by simp at h
  | y :: ids, e :: es, i, h, hv, hl => by
    simp only [List.map_cons, List.cons.injEq] at h
    have e1 : (Op.equal 24 (.agg (ints .u8 x)) e.key).run Tryd.prog w = .ok (decide (x = y)) w := by
      rw [h.1]
      change (Op.equalIn 10000 24 (.agg (ints .u8 x)) (.agg (ints .u8 y))).run Tryd.prog w = _
      exact eq_ints Tryd.underlying24 Tryd.underlying5 (by kernel_rfl) 9998 x y hx (hl y (by simp)) w
    by_cases hxy : x = y
    · refine ⟨i, ?_⟩
      rw [decide_eq_true hxy] at e1
      rw [Instr.findAsking, if_pos (show x ∈ y :: ids by rw [hxy]; exact List.mem_cons_self ..)]
      simp only [Sem.run_bind, e1, Result.andThen_ok, if_true, hv e (by simp)]
      rfl
    · obtain ⟨j, hj⟩ := find_ask x hx w ids es (i + 1) h.2 (fun a ha => hv a (by simp [ha])) (fun a ha => hl a (by simp [ha]))
      refine ⟨j, ?_⟩
      rw [Instr.findAsking]
      simp only [Sem.run_bind, e1, Result.andThen_ok, hxy, decide_false, Bool.false_eq_true, if_false, List.mem_cons, false_or]
      exact hj
theorem find_key (x : List Int) (hx : x.length = 32) (w : World) (ids : List (List Int)) (es : List MapEntry) (h : es.map (·.key) = ids.map (fun x => Value.agg (ints .u8 x))) (hv : ∀ e ∈ es, e.val = .bool true) (hl : ∀ y ∈ ids, y.length = 32) :
    ∃ j, (Instr.findKey 24 (.agg (ints .u8 x)) es).run Tryd.prog w = .ok (if x ∈ ids then some (j, .bool true) else none) w := by
  obtain ⟨j, hj⟩ := find_ask x hx w ids es 0 h hv hl
  refine ⟨j, ?_⟩
  exact (run_findKey_eq w (by rw [Tryd.underlying24]) _ _).trans hj
theorem mapA_lookup {w : World} {b : Nat} {ids : List (List Int)} (h : MapA w b ids) (x : List Int) (hx : x.length = 32) :
    (Instr.lookup 88 (.map (some b)) (.agg (ints .u8 x)) false).run Tryd.prog w = .ok (.bool (decide (x ∈ ids))) w := by
  obtain ⟨es, clock, hb, hk, hv, hl⟩ := h
  obtain ⟨j, hj⟩ := find_key x hx w ids es.toList hk hv hl
  have hz : (zeroValue 4).run Tryd.prog w = .ok (.bool false) w := by kernel_rfl
  have hc := key_ok es.isEmpty x hx w
  by_cases hm : x ∈ ids
  · rw [if_pos hm] at hj
    simp only [Instr.lookup, Sem.run_bind, run_underlying Tryd.underlying88, Result.andThen_ok, MapKept.run_getObj_map hb, Sem.run_pure, hc, hj, hm, decide_true]
    rfl
  · rw [if_neg hm] at hj
    simp only [Instr.lookup, Sem.run_bind, run_underlying Tryd.underlying88, Result.andThen_ok, MapKept.run_getObj_map hb, Sem.run_pure, hc, hj, hm, hz, decide_false]
    rfl
theorem mapA_push {w : World} {b : Nat} {ids : List (List Int)} (h : MapA w b ids) (x : List Int) (hx : x.length = 32) (hn : x ∉ ids) :
    ∃ w' o, (Instr.mapUpdate 88 (.map (some b)) (.agg (ints .u8 x)) (.bool true)).run Tryd.prog w = .ok () w' ∧ Upd w w' b o ∧ MapA w' b (ids ++ [x]) := by
  obtain ⟨es, clock, hb, hk, hv, hl⟩ := h
  obtain ⟨j, hj⟩ := find_key x hx w ids es.toList hk hv hl
  rw [if_neg hn] at hj
  have hc := key_ok false x hx w
  refine ⟨setB w b (.map (es.push ⟨.agg (ints .u8 x), .bool true, clock⟩) (clock + 1)), .map (es.push ⟨.agg (ints .u8 x), .bool true, clock⟩) (clock + 1), ?_, upd_setB hb _, ?_⟩
  · simp only [Instr.mapUpdate, Sem.run_bind, run_underlying Tryd.underlying88, Result.andThen_ok, MapKept.run_getObj_map hb, hc, hj]
    simp [MapKept.run_setObj_map _ hb, setB]
  · refine ⟨_, _, (upd_setB hb _).same, by simp [hk], fun e he => ?_, fun y hy => ?_⟩
    · simp only [Array.toList_push, List.mem_append, List.mem_singleton] at he
      rcases he with he | rfl
      · exact hv e he
      · rfl
    · rcases List.mem_append.1 hy with h | h
      · exact hl y h
      · rw [List.mem_singleton.1 h]; exact hx
end Go.Proofs.YtoompcgdhokdlaaDoor
