/- The walk over sha's block. -/
import Derived.Test.YthnommoljikaiaaDoorSha1
set_option linter.unusedSimpArgs false
set_option linter.unusedVariables false
namespace Go.Proofs.YthnommoljikaiaaDoor
open Go.RowKit

/-- One block that was there has been written; new ones may have come. -/
structure Put1 (w w' : World) (g : Nat) (o : Obj) : Prop where
  os : w'.os = w.os
  tape : w'.tape = w.tape
  output : w'.output = w.output
  size : w.heap.size ≤ w'.heap.size
  same : w'.heap[g]? = some o
  other : ∀ k, k < w.heap.size → k ≠ g → w'.heap[k]? = w.heap[k]?

def hashCells (made : Bool) (st rest : List Int) (n : Int) : Array Value := (Value.bool made :: (st.map (Value.int .u32) ++ rest.map (Value.int .u8) ++ [Value.int .u64 n])).toArray

def rnd (v : List Int) (k w : Int) : List Int :=
  let e := v[4]?.getD 0
  let a := v[0]?.getD 0
  let choice := bits .xor .u32 (v[6]?.getD 0) (bits .and .u32 e (bits .xor .u32 (v[5]?.getD 0) (v[6]?.getD 0)))
  let most := bits .or .u32 (bits .and .u32 a (v[1]?.getD 0)) (bits .and .u32 (v[2]?.getD 0) (bits .or .u32 a (v[1]?.getD 0)))
  let x := v[7]?.getD 0 + bits .xor .u32 (bits .xor .u32 (rotr e 6) (rotr e 11)) (rotr e 25) + choice + k + w
  let y := bits .xor .u32 (bits .xor .u32 (rotr a 2) (rotr a 13)) (rotr a 22) + most
  [(x + y) % 4294967296, a, v[1]?.getD 0, v[2]?.getD 0, (v[3]?.getD 0 + x) % 4294967296, e, v[5]?.getD 0, v[6]?.getD 0]
def rounds (st sc : List Int) : Nat → List Int
  | 0 => st
  | t + 1 => rnd (rounds st sc t) (ks[t]?.getD 0) (sc[t]?.getD 0)
theorem rounds_length (st sc : List Int) (h : st.length = 8) (t : Nat) : (rounds st sc t).length = 8 := by
  cases t with
  | zero => exact h
  | succ t => simp [rounds, rnd]
def addAll (st v : List Int) : Nat → List Int
  | 0 => st
  | i + 1 => (addAll st v i).set i (((addAll st v i)[i]?.getD 0 + v[i]?.getD 0) % 4294967296)
theorem addAll_length (st v : List Int) (i : Nat) : (addAll st v i).length = st.length := by
  induction i with
  | zero => rfl
  | succ i ih => simp [addAll, ih]
def blockOf (st bs : List Int) : List Int := addAll st (rounds st (sched bs 64) 64) 8

theorem hash_u8 {made : Bool} {st rest : List Int} {n : Int} (hst : st.length = 8) (j : Nat) (hj : j < rest.length) : (hashCells made st rest n)[9 + j]? = some (.int .u8 (rest.getD j 0)) := by
  simp only [hashCells, List.getElem?_toArray, show 9 + j = (8 + j) + 1 by omega, List.getElem?_cons_succ]
  rw [List.getElem?_append_left (by simp; omega), List.getElem?_append_right (by simp; omega)]
  simp [hst, List.getElem?_eq_getElem hj, List.getD_eq_getElem?_getD]
theorem hash_u32 {made : Bool} {st rest : List Int} {n : Int} (j : Nat) (hj : j < st.length) : (hashCells made st rest n)[1 + j]? = some (.int .u32 (st.getD j 0)) := by
  simp only [hashCells, List.getElem?_toArray, show 1 + j = j + 1 by omega, List.getElem?_cons_succ]
  rw [List.getElem?_append_left (by simp; omega), List.getElem?_append_left (by simp; omega)]
  simp [List.getElem?_eq_getElem hj, List.getD_eq_getElem?_getD]
theorem hash_n {made : Bool} {st rest : List Int} {n : Int} (hst : st.length = 8) (hr : rest.length = 64) : (hashCells made st rest n)[73]? = some (.int .u64 n) := by
  simp only [hashCells, List.getElem?_toArray, show 73 = 72 + 1 by omega, List.getElem?_cons_succ]
  rw [List.getElem?_append_right (by simp; omega)]
  simp [hst, hr]
theorem hash_size {made : Bool} {st rest : List Int} {n : Int} (hst : st.length = 8) (hr : rest.length = 64) : (hashCells made st rest n).size = 74 := by
  simp [hashCells, hst, hr]
theorem hash_state {made : Bool} {st rest : List Int} {n : Int} (hst : st.length = 8) : (hashCells made st rest n).extract 1 (1 + 8) = ints .u32 st := by
  simp only [hashCells, List.extract_toArray, List.extract_eq_take_drop, List.drop_succ_cons, List.drop_zero]
  rw [List.append_assoc, List.take_append_of_le_length (by simp; omega), List.take_of_length_le (by simp; omega)]
  rfl

theorem hash_set {made : Bool} {st rest : List Int} {n : Int} (j : Nat) (hj : j < st.length) (x : Int) : (hashCells made st rest n).setIfInBounds (1 + j) (.int .u32 x) = hashCells made (st.set j x) rest n := by
  have hj' : j < (st.map (Value.int .u32)).length := by simpa using hj
  simp only [hashCells, show 1 + j = j + 1 by omega, List.setIfInBounds_toArray, List.set_cons_succ, List.append_assoc, List.map_set]
  rw [List.set_append_left _ _ hj']
theorem Put1.setCell {w w' : World} {g j : Nat} {c : Array Value} {T : TypeId} (h : Put1 w w' g (.cells c T (0, 0))) (v : Value) : Put1 w (w'.setCell ⟨g, j, none⟩ v) g (.cells (c.setIfInBounds j v) T (0, 0)) :=
  ⟨h.os, h.tape, h.output, by have := h.size; simpa [World.setCell] using this, heap_setCell_same w' g j c T v h.same, fun k hk hne => by rw [heap_setCell_other w' _ k v hne]; exact h.other k hk hne⟩
theorem Put1.trans {w w1 w2 : World} {g : Nat} {o1 o2 : Obj} (h : Put1 w w1 g o1) (k : Put1 w1 w2 g o2) : Put1 w w2 g o2 :=
  ⟨k.os.trans h.os, k.tape.trans h.tape, k.output.trans h.output, Nat.le_trans h.size k.size, k.same, fun b hb hne => (k.other b (Nat.lt_of_lt_of_le hb h.size) hne).trans (h.other b hb hne)⟩
theorem Put1.upd {w w1 w2 : World} {g : Nat} {o1 o2 : Obj} (h : Put1 w w1 g o1) (k : Upd w1 w2 g o2) : Put1 w w2 g o2 :=
  ⟨k.os.trans h.os, k.tape.trans h.tape, k.output.trans h.output, by rw [k.size]; exact h.size, k.same, fun b hb hne => (k.other b hne).trans (h.other b hb hne)⟩
theorem Put1.drew {w w' : World} {g : Nat} {o : Obj} (h : Put1 w w' g o) : Put1 w w'.drew g o := ⟨h.os, h.tape, h.output, h.size, h.same, h.other⟩

set_option maxRecDepth 100000 in
set_option maxHeartbeats 1000000 in
theorem take_any (g : Nat) (made : Bool) (st rest : List Int) (n : Int) (T : TypeId) (w : World) (hst : st.length = 8) (hrest : rest.length = 64) (hr : ∀ j, 0 ≤ rest.getD j 0 ∧ rest.getD j 0 < 256)
    (hg : w.heap[g]? = some (.cells (hashCells made st rest n) T (0, 0))) :
    Calls Tryd.prog 94 #[.pointer (some ⟨g, 1, none⟩), .pointer (some ⟨g, 9, none⟩)] w fun e w' =>
      e = .returned (.tuple #[]) ∧ Put1 w w' g (.cells (hashCells made (blockOf st rest) rest n) T (0, 0)) := by
  have hgs : g < w.heap.size := blk_lt hg
  have hbytes : ∀ j, j < 64 → w.cell? ⟨g, 9 + j, none⟩ = some (.int .u8 (rest.getD j 0)) := fun j hj => blk_cell hg (hash_u8 hst j (by omega))
  go_enter Tryd.func94, Tryd.ntmps94
  have Hg := Lib.hid hg; have Hst := Lib.hid hst; have Hrest := Lib.hid hrest; have Hb := Lib.hid hbytes
  clear hg hst hrest hbytes
  go_wp2_with fail
  refine (schedule_any g 9 rest w Hb.out hr hgs).mono ?_
  rintro e w1 ⟨rfl, hb1⟩
  go_wp2_with fail
  refine (constants_any w1).mono ?_
  rintro e w2 ⟨rfl, hb2⟩
  have hg2 : g < w2.heap.size := Nat.lt_of_lt_of_le hgs (Nat.le_trans hb1.size hb2.size)
  have G2 : Hid (w2.heap[g]? = some (.cells (hashCells made st rest n) T (0, 0))) := by
    show _ = _
    rw [hb2.block g (Nat.lt_of_lt_of_le hgs hb1.size), hb1.block g hgs, Hg.out]
  have I64 : Hid ((Tryd.prog.info? 159).map (·.size) = some 64) := by show _ = _; kernel_rfl
  have IS : Hid ((Tryd.prog.info? 159).map (·.size) = some (ints .u32 (sched rest 64)).size) := by show _ = _; rw [ints_size, sched_length]; exact I64.out
  have IK : Hid ((Tryd.prog.info? 159).map (·.size) = some (ints .u32 ks).size) := I64
  have I8 : Hid ((Tryd.prog.info? 136).map (·.size) = some 8) := by show _ = _; kernel_rfl
  have I8' : Hid ((Tryd.prog.info? 136).map (·.size) = some (ints .u32 st).size) := by show _ = _; rw [ints_size, Hst.out]; exact I8.out
  have P1 : Hid (putRow (List.replicate 64 (Value.int .u32 0)).toArray 0 (ints .u32 (sched rest 64)).toList = ints .u32 (sched rest 64)) := by
    show _ = _; rw [putRow_all _ _ (by rw [Array.length_toList, ints_size, sched_length]; rfl)]
  have P2 : Hid (putRow (List.replicate 64 (Value.int .u32 0)).toArray 0 (ints .u32 ks).toList = ints .u32 ks) := by
    show _ = _; rw [putRow_all _ _ (by decide)]
  have P3 : Hid (putRow (List.replicate 8 (Value.int .u32 0)).toArray 0 (ints .u32 st).toList = ints .u32 st) := by
    show _ = _; rw [putRow_all _ _ (by rw [Array.length_toList, ints_size, Hst.out]; rfl)]
  have F1 : Hid (0 + (ints .u32 (sched rest 64)).size ≤ (List.replicate 64 (Value.int .u32 0)).toArray.size) := by show _ ≤ _; rw [ints_size, sched_length]; decide
  have F2 : Hid (0 + (ints .u32 ks).size ≤ (List.replicate 64 (Value.int .u32 0)).toArray.size) := by show _ ≤ _; decide
  have F3 : Hid (0 + (ints .u32 st).size ≤ (List.replicate 8 (Value.int .u32 0)).toArray.size) := by show _ ≤ _; rw [ints_size, Hst.out]; decide
  go_wp2_with (first
    | ((with_reducible refine at_store (.tmp 4) (.tmp 16) ?_); go_must (refine wpList_store_agg (cells := ints .u32 (sched rest 64)) rfl 159 (.tmp 4) (.tmp 16) rfl w2.heap.size 0 rfl rfl 159 (List.replicate 64 (Value.int .u32 0)).toArray (heap_alloc2_old w2 _ _) IS.out F1.out (ints_oneCell _ _) _ P1.out ?_; intro w3 hu3; have q : w2.heap.size + 1 ≠ w2.heap.size := Nat.succ_ne_self _; have q2 := hu3.other (w2.heap.size + 1) q; have K3 : Hid (w3.heap[w2.heap.size + 1]? = some (.cells (List.replicate 64 (Value.int .u32 0)).toArray 159 (0, 0))) := q2.trans (heap_alloc2_new w2 _ _); have G3 : Hid (w3.heap[g]? = some (.cells (hashCells made st rest n) T (0, 0))) := hu3.blk (blk_alloc (blk_alloc G2.out)) (by omega)))
    | ((with_reducible refine at_store (.tmp 5) (.tmp 17) ?_); go_must (refine wpList_store_agg (cells := ints .u32 ks) rfl 159 (.tmp 5) (.tmp 17) rfl (w2.heap.size + 1) 0 rfl rfl 159 (List.replicate 64 (Value.int .u32 0)).toArray K3.out IK.out F2.out (ints_oneCell _ _) _ P2.out ?_; intro w4 hu4; have G4 : Hid (w4.heap[g]? = some (.cells (hashCells made st rest n) T (0, 0))) := hu4.blk G3.out (by omega)))
    | ((with_reducible refine at_load 20 ?_); go_must (refine wpList_load_agg rfl 136 (.tmp 19) rfl g 1 rfl T (hashCells made st rest n) 8 _ G4.out Tryd.underlying136 rfl I8.out (by rw [hash_size Hst.out Hrest.out]; decide) (ints .u32 st) (hash_state Hst.out) ?_))
    | ((with_reducible refine at_store (.tmp 6) (.tmp 20) ?_); go_must (refine wpList_store_agg (cells := ints .u32 st) rfl 136 (.tmp 6) (.tmp 20) rfl w4.heap.size 0 rfl rfl 136 (List.replicate 8 (Value.int .u32 0)).toArray (blk_new w4 _) I8'.out F3.out (ints_oneCell _ _) _ P3.out ?_; intro w5 hu5; have G5 : Hid (w5.heap[g]? = some (.cells (hashCells made st rest n) T (0, 0))) := hu5.blk (blk_alloc G4.out) (by have := hu4.size; have := hu3.size; simp at this; omega))))
  have s3 := hu3.size; have s4 := hu4.size; simp at s3
  have S5 : w5.heap[w2.heap.size]? = some (.cells (ints .u32 (sched rest 64)) 159 (0, 0)) := hu5.blk (blk_alloc (hu4.blk hu3.same (by omega))) (by omega)
  have K5 : w5.heap[w2.heap.size + 1]? = some (.cells (ints .u32 ks) 159 (0, 0)) := hu5.blk (blk_alloc hu4.same) (by omega)
  have V5 := hu5.same
  have B5 : Below w.heap.size w w5 := by
    have z1 := hb1.size; have z2 := hb2.size
    exact (((((hb1.trans (hb2.mono z1)).alloc (by omega) _).alloc (by simp; omega) _).trans (hu3.below (by omega))).trans (hu4.below (by omega))).alloc (by omega) _ |>.trans (hu5.below (by omega))
  have hC : w.heap.size ≤ w2.heap.size := Nat.le_trans hb1.size hb2.size
  have hD : w2.heap.size + 2 ≤ w4.heap.size := by omega
  have hGC : g < w2.heap.size := hg2
  clear hu3 hu4 hu5 q q2 K3 G3 G4 s3 s4 P1 P2 P3 F1 F2 F3 IS IK I8 I8' I64 G2 hb1 hb2 hg2
  generalize w4.heap.size = D at *
  generalize w2.heap.size = C at *
  go_loopw [21] (fun i wr => ∃ t : Nat, t ≤ 64 ∧ i = .int .i64 t ∧ wr.heap[D]? = some (.cells (ints .u32 (rounds st (sched rest 64) t)) 136 (0, 0)) ∧ wr.heap[C]? = some (.cells (ints .u32 (sched rest 64)) 159 (0, 0)) ∧ wr.heap[C + 1]? = some (.cells (ints .u32 ks) 159 (0, 0)) ∧ Below w.heap.size w wr)
    (fun i _ => 64 - (intOf i).toNat)
  case atStart => exact ⟨0, by omega, rfl, V5, S5, K5, B5⟩
  case round =>
    clear G5 V5 S5 K5 B5
    obtain ⟨t, ht, rfl, hV, hS, hK, hbel⟩ := hrel
    by_cases hlt : t < 64
    · have hw := blk_int hS t (by rw [sched_length]; omega)
      have hk := blk_int hK t (by exact hlt)
      have hVl := rounds_length st (sched rest 64) Hst.out t
      have HN : Hid (rounds st (sched rest 64) (t + 1) = rnd (rounds st (sched rest 64) t) (ks[t]?.getD 0) ((sched rest 64)[t]?.getD 0)) := rfl
      generalize rounds st (sched rest 64) t = V at *
      obtain ⟨a0, a1, a2, a3, a4, a5, a6, a7, rfl⟩ := eight V hVl
      have v0 : wr.cell? ⟨D, 0, none⟩ = some (.int .u32 a0) := blk_int hV 0 (by simp)
      have v1 : wr.cell? ⟨D, 1, none⟩ = some (.int .u32 a1) := blk_int hV 1 (by simp)
      have v2 : wr.cell? ⟨D, 2, none⟩ = some (.int .u32 a2) := blk_int hV 2 (by simp)
      have v3 : wr.cell? ⟨D, 3, none⟩ = some (.int .u32 a3) := blk_int hV 3 (by simp)
      have v4 : wr.cell? ⟨D, 4, none⟩ = some (.int .u32 a4) := blk_int hV 4 (by simp)
      have v5 : wr.cell? ⟨D, 5, none⟩ = some (.int .u32 a5) := blk_int hV 5 (by simp)
      have v6 : wr.cell? ⟨D, 6, none⟩ = some (.int .u32 a6) := blk_int hV 6 (by simp)
      have v7 : wr.cell? ⟨D, 7, none⟩ = some (.int .u32 a7) := blk_int hV 7 (by simp)
      have sl1 := arr_slice_l Tryd.underlying136 Tryd.sizeOf134 D 0 1 (by omega) .i64 1 rfl
      have sl2 := arr_slice_h Tryd.underlying136 Tryd.sizeOf134 D 0 7 (by omega) .i64 7 rfl
      simp only [show ¬ (8 : Nat) = 1 by decide, if_false, Nat.reduceSub, Nat.reduceAdd] at sl1
      have I1 : Hid ((Tryd.prog.info? 134).map (·.size) = some 1) := by show _ = _; kernel_rfl
      have HS := Lib.hid hS; have HK := Lib.hid hK; have HV := Lib.hid hV
      clear hVl hS hK hV Hb
      go_wp2
      go_quiet (fail)
      go_wp2
      go_quiet ((go_at_call 104; exact quiet2 (turned_any _ _ (by omega) (by omega) _)))
      go_wp2_with (go_at_call 104; refine (turned_any _ _ (by omega) (by omega) _).mono ?_; rintro e w' ⟨rfl, rfl⟩)
      go_region_law (refine step_copy_upd rfl (.tmp 81) (.tmp 82) 163 163 rfl 134 Tryd.underlying163 I1.out D 1 ⟨D, 0, none⟩ 7 7 7 8 rfl rfl (ints .u32 [a0, a1, a2, a3, a4, a5, a6, a7]) 136 HV.out ([a0, a1, a2, a3, a4, a5, a6].map (Value.int .u32)) rfl (copy_src HV.out 0 7) (by simp [ints]) (oneCell_map_int _ _) ?_; intro w6 hu6)
      all_goals
        have e6 : w6.heap[D]? = some (.cells (ints .u32 [a0, a0, a1, a2, a3, a4, a5, a6]) 136 (0, 0)) := hu6.same
        have x4 : w6.cell? ⟨D, 4, none⟩ = some (.int .u32 a3) := blk_int e6 4 (by simp)
        have x0 : w6.cell? ⟨D, 0, none⟩ = some (.int .u32 a0) := blk_int e6 0 (by simp)
        have y4 := blk_frozen 4 e6
        have y0 := blk_frozen 0 e6
        have E6 := Lib.hid e6
        clear e6
        go_wp2
        go_roundw
        case rel =>
          refine ⟨t + 1, by omega, by go_num, ?_, ?_, ?_, ?_⟩
          · rw [HN.out]; exact blk_set (blk_set E6.out 4 _) 0 _
          · exact blk_other (blk_other (hu6.blk HS.out (by omega)) (by show C ≠ D; omega)) (by show C ≠ D; omega)
          · exact blk_other (blk_other (hu6.blk HK.out (by omega)) (by show C + 1 ≠ D; omega)) (by show C + 1 ≠ D; omega)
          · exact ((((drewN_below hbel _).drew).trans (hu6.below (by omega))).setCell (by show _ ≤ D; omega) _).setCell (by show _ ≤ D; omega) _
        case measure => simp [intOf]; omega
    · obtain rfl : t = 64 := by omega
      have hVl := rounds_length st (sched rest 64) Hst.out 64
      have HF : Hid (blockOf st rest = addAll st (rounds st (sched rest 64) 64) 8) := rfl
      generalize rounds st (sched rest 64) 64 = V at *
      have P0 : Put1 w wr g (.cells (hashCells made (addAll st V 0) rest n) T (0, 0)) := ⟨hbel.os, hbel.tape, hbel.output, hbel.size, by rw [hbel.block g hgs]; exact Hg.out, fun k hk _ => hbel.block k hk⟩
      have HVl := Lib.hid hVl
      have HV := Lib.hid hV
      clear hVl hV hS hK Hb hbel Hg
      go_wp2
      go_loopw [94] (fun i ws => ∃ j : Nat, j ≤ 8 ∧ i = .int .i64 j ∧ ws.heap[D]? = some (.cells (ints .u32 V) 136 (0, 0)) ∧ Put1 w ws g (.cells (hashCells made (addAll st V j) rest n) T (0, 0)))
        (fun i _ => 8 - (intOf i).toNat)
      case atStart => exact ⟨0, by omega, rfl, HV.out, P0⟩
      case round =>
        obtain ⟨j, hj, rfl, hV, hP⟩ := hrel
        by_cases hlt : j < 8
        · have cv := blk_int hV j (by rw [HVl.out]; exact hlt)
          have hl := addAll_length st V j
          have cs := blk_cell hP.same (hash_u32 (made := made) (rest := rest) (n := n) (st := addAll st V j) j (by rw [hl, Hst.out]; exact hlt))
          have cf := blk_frozen (1 + j) hP.same
          have Hl := Lib.hid hl
          have HVj := Lib.hid hV
          clear hl hV P0 HV
          go_wp2
          go_region
          all_goals
            go_wp2
            go_roundw
            case rel =>
              refine ⟨j + 1, by omega, by go_num, blk_other HVj.out (by show D ≠ g; omega), ?_⟩
              have := (hP.setCell (j := 1 + j) (.int .u32 (((addAll st V j)[j]?.getD 0 + V[j]?.getD 0) % 4294967296))).drew
              rw [hash_set j (by rw [Hl.out, Hst.out]; exact hlt)] at this
              exact this
            case measure => simp [intOf]; omega
        · obtain rfl : j = 8 := by omega
          go_wp2
          go_end0
          exact ⟨rfl, by rw [HF.out]; exact hP⟩
end Go.Proofs.YthnommoljikaiaaDoor
