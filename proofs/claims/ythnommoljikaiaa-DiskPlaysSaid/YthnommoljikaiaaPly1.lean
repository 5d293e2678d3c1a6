/- The document's disk: what it is as a value; the walks over zeros, call and New. -/
import Derived.Test.YthnommoljikaiaaDsk16
set_option linter.unusedSimpArgs false
set_option linter.unusedVariables false
namespace Go.Proofs.Ythnommoljikaiaa
open Go.RowKit

theorem strInfo : (Try.prog.info? 9).map (fun i => (i.zero, i.size, i.bytes)) = some (some (.string ⟨#[]⟩), 1, 16) := by kernel_rfl
theorem rwInfo : (Try.prog.info? 56).map (fun i => (i.zero, i.size, i.bytes)) = some (some (.agg #[.int .i64 0, .string ⟨#[]⟩]), 2, 24) := by kernel_rfl
theorem rdInfo : (Try.prog.info? 40).map (·.size) = some 4 := by kernel_rfl
def safeCells (f : Int → List Int) (n : Nat) : List Value := (List.range n).map fun i : Nat => Value.string (strOfNums (f (i : Int)))
def rwCells (u : List (Int × List Int)) : List Value := u.flatMap fun x => [.int .i64 x.1, .string (strOfNums x.2)]
theorem safeCells_succ (f : Int → List Int) (n : Nat) : safeCells f (n + 1) = safeCells f n ++ [.string (strOfNums (f n))] := by simp [safeCells, List.range_succ]
theorem safeCells_length (f : Int → List Int) (n : Nat) : (safeCells f n).length = n := by simp [safeCells]
theorem rwCells_append (u v : List (Int × List Int)) : rwCells (u ++ v) = rwCells u ++ rwCells v := by simp [rwCells]
theorem rwCells_length (u : List (Int × List Int)) : (rwCells u).length = u.length * 2 := by
  induction u with
  | nil => rfl
  | cons x u ih =>
    rw [rwCells, List.flatMap_cons, List.length_append]
    change 2 + (rwCells u).length = _
    rw [ih, List.length_cons]
    omega
def rCells (sv uv : Value) (left : Int) (down : Bool) : Array Value := #[sv, uv, .int .i64 left, .bool down]
/-- Where its two rows lie. -/
structure RefAt (w : World) (S : Nat → Prop) (sv uv : Value) (n : Int) (f : Int → List Int) (und : List (Int × List Int)) : Prop where
  safe : w.ownsRow 0 9 1 sv n.toNat (safeCells f n.toNat)
  und : w.ownsRow 0 56 2 uv und.length (rwCells und)
  offS : ∀ k, sv.ownBlock = some k → ¬ S k
  offU : ∀ k, uv.ownBlock = some k → ¬ S k
theorem RefAt.kept {w w' : World} {S : Nat → Prop} {sv uv : Value} {n : Int} {f : Int → List Int} {und : List (Int × List Int)} (h : RefAt w S sv uv n f und) (hb : Below w.heap.size w w') : RefAt w' S sv uv n f und :=
  ⟨ownsRow_same h.safe fun k hk => hb.block k (ownsRow_lt h.safe k hk), ownsRow_same h.und fun k hk => hb.block k (ownsRow_lt h.und k hk), h.offS, h.offU⟩
theorem RefAt.only {w w' : World} {S T : Nat → Prop} {sv uv : Value} {n : Int} {f : Int → List Int} {und : List (Int × List Int)} (h : RefAt w S sv uv n f und) (ho : Only T w w') (hT : ∀ k, T k → k < w.heap.size → S k) : RefAt w' S sv uv n f und :=
  ⟨ownsRow_same h.safe fun k hk => ho.block k (ownsRow_lt h.safe k hk) (fun ht => h.offS k hk (hT k ht (ownsRow_lt h.safe k hk))), ownsRow_same h.und fun k hk => ho.block k (ownsRow_lt h.und k hk) (fun ht => h.offU k hk (hT k ht (ownsRow_lt h.und k hk))), h.offS, h.offU⟩
/-- The document's disk, a value; none of its blocks is in S. -/
def RefIs (w : World) (S : Nat → Prop) (v : Value) (st : DSt) : Prop := ∃ A c B d, v = .agg (rCells (.slice A st.n.toNat c) (.slice B st.und.length d) st.left st.down) ∧ RefAt w S (.slice A st.n.toNat c) (.slice B st.und.length d) st.n st.f st.und
theorem ownsRow_sl {w : World} {base : Nat} {e : TypeId} {size : Nat} {v : Value} {n : Nat} {xs : List Value} (h : w.ownsRow base e size v n xs) : ∃ A c, v = .slice A n c := by
  obtain ⟨h1, ⟨h2, h3⟩ | ⟨g, cap, cur, e, hg, hh, h2⟩⟩ := h
  · exact ⟨none, 0, by rw [h2, h3]⟩
  · exact ⟨_, cap, e⟩
def rZero : Array Value := #[.slice none 0 0, .slice none 0 0, .int .i64 0, .bool false]
theorem rd_one (A : Option Addr) (n c : Nat) (B : Option Addr) (m d : Nat) (l : Int) (b : Bool) : ∀ v ∈ (rCells (.slice A n c) (.slice B m d) l b).toList, v.oneCell' = true := by
  intro v hv
  simp only [rCells, List.mem_cons, List.not_mem_nil, or_false] at hv
  rcases hv with rfl | rfl | rfl | rfl <;> rfl
theorem strRep_succ (k : Nat) : strOfNums (List.replicate k 0) ++ ⟨#[0]⟩ = strOfNums (List.replicate (k + 1) 0) := by
  have e : (⟨#[0]⟩ : ByteArray) = strOfNums [0] := rfl
  rw [e, ← str_append, List.replicate_succ']

set_option maxRecDepth 100000 in
set_option maxHeartbeats 400000 in
theorem rzeros_any (w : World) (n : Nat) (hn : n ≤ 256) :
    Calls Try.prog 70 #[.int .i64 n] w fun e w' => e = .returned (.string (strOfNums (List.replicate n 0))) ∧ w = w' := by
  go_enter Try.func70, Try.ntmps70
  go_wp2_with fail
  go_loopw [3, 4] (fun s q wr => ∃ k : Nat, k ≤ n ∧ q = .int .i64 k ∧ s = .string (strOfNums (List.replicate k 0)) ∧ w = wr) (fun _ q _ => n - (intOf q).toNat)
  case atStart => exact ⟨0, Nat.zero_le _, rfl, rfl, rfl⟩
  case round =>
    obtain ⟨k, hk, rfl, rfl, rfl⟩ := hrel
    have hsz : (strOfNums (List.replicate k 0)).size = k := by rw [str_size, List.length_replicate]
    by_cases hlt : k < n
    · have hlt' : (k : Int) < n := by omega
      go_wp2_with fail
      exact ⟨⟨k + 1, by omega, by go_num, by rw [strRep_succ], trivial⟩, by simp [intOf]; omega⟩
    · obtain rfl : k = n := by omega
      have hlt' : ¬ (k : Int) < k := by omega
      go_wp2_with fail
      go_ret
      exact ⟨rfl, rfl⟩

set_option maxRecDepth 100000 in
set_option maxHeartbeats 800000 in
theorem rcall_any (w : World) (A : Option Addr) (n c : Nat) (B : Option Addr) (m d : Nat) (left : Int) (down : Bool) (hlo : -1 ≤ left) (hhi : left ≤ 9223372036854775807) :
    Calls Try.prog 71 #[.agg (rCells (.slice A n c) (.slice B m d) left down)] w fun e w' =>
      e = .returned (.tuple #[.agg (rCells (.slice A n c) (.slice B m d) (callOf left down).1 (callOf left down).2.1), .bool ((callOf left down).2.2 == 0)]) ∧ Below w.heap.size w w' := by
  show Calls Try.prog 71 #[.agg #[.slice A n c, .slice B m d, .int .i64 left, .bool down]] w _
  by_cases h0 : left = 0
  · subst h0
    have HC : Bx (callOf 0 down = (-1, true, 17)) := ⟨rfl⟩
    go_enter Try.func71, Try.ntmps71
    go_wp2_with (first
      | ((with_reducible refine at_load 9 ?_); go_must (refine wpList_load_agg rfl 40 (.tmp 1) rfl w.heap.size 0 rfl 40 _ 4 _ (heap_alloc2_old w _ _) Try.underlying40 rfl rdInfo (Nat.le_refl 4) (rCells (.slice A n c) (.slice B m d) (-1) true) rfl ?_))
      | ((with_reducible refine at_store (.tmp 2) (.tmp 9) ?_); go_must (refine wpList_store_agg (cells := rCells (.slice A n c) (.slice B m d) (-1) true) rfl 40 (.tmp 2) (.tmp 9) rfl (w.heap.size + 1) 0 rfl rfl 40 rZero (heap_alloc2_new w _ _) rdInfo (Nat.le_refl 4) (rd_one _ _ _ _ _ _ _ _) (rCells (.slice A n c) (.slice B m d) (-1) true) (putRow_all _ _ rfl) ?_; intro w3 hu3)))
    rw [HC.out]
    refine bodyPost_ret (results_ct (cs := rCells (.slice A n c) (.slice B m d) (-1) true) rfl _ _ (w.heap.size + 1) 40 _ _ rfl rfl hu3.same Try.underlying40 rfl rdInfo) rfl ⟨rfl, ?_⟩
    exact (((Below.refl _ _).alloc (Nat.le_refl _) _).alloc (by simp) _).trans (hu3.below (by omega))
  · have h0' : (left == 0) = false := by simp [h0]
    by_cases hp : 0 < left
    · have HC : Bx (callOf left down = (left - 1, down, 0)) := ⟨by rw [callOf, if_neg h0, if_pos hp]⟩
      go_enter Try.func71, Try.ntmps71
      go_wp2_with (first
        | ((with_reducible refine at_load 17 ?_); go_must (refine wpList_load_agg rfl 40 (.tmp 1) rfl w.heap.size 0 rfl 40 _ 4 _ (heap_alloc2_old w _ _) Try.underlying40 rfl rdInfo (Nat.le_refl 4) (rCells (.slice A n c) (.slice B m d) (left - 1) down) rfl ?_))
        | ((with_reducible refine at_store (.tmp 2) (.tmp 17) ?_); go_must (refine wpList_store_agg (cells := rCells (.slice A n c) (.slice B m d) (left - 1) down) rfl 40 (.tmp 2) (.tmp 17) rfl (w.heap.size + 1) 0 rfl rfl 40 rZero (heap_alloc2_new w _ _) rdInfo (Nat.le_refl 4) (rd_one _ _ _ _ _ _ _ _) (rCells (.slice A n c) (.slice B m d) (left - 1) down) (putRow_all _ _ rfl) ?_; intro w3 hu3)))
      rw [HC.out]
      refine bodyPost_ret (results_ct (cs := rCells (.slice A n c) (.slice B m d) (left - 1) down) rfl _ _ (w.heap.size + 1) 40 _ _ rfl rfl hu3.same Try.underlying40 rfl rdInfo) rfl ⟨rfl, ?_⟩
      exact (((Below.refl _ _).alloc (Nat.le_refl _) _).alloc (by simp) _).trans (hu3.below (by omega))
    · have HC : Bx (callOf left down = (left, down, 0)) := ⟨by rw [callOf, if_neg h0, if_neg hp]⟩
      have hp' : ¬ (0 : Int) < left := hp
      go_enter Try.func71, Try.ntmps71
      go_wp2_with (first
        | ((with_reducible refine at_load 17 ?_); go_must (refine wpList_load_agg rfl 40 (.tmp 1) rfl w.heap.size 0 rfl 40 _ 4 _ (heap_alloc2_old w _ _) Try.underlying40 rfl rdInfo (Nat.le_refl 4) (rCells (.slice A n c) (.slice B m d) left down) rfl ?_))
        | ((with_reducible refine at_store (.tmp 2) (.tmp 17) ?_); go_must (refine wpList_store_agg (cells := rCells (.slice A n c) (.slice B m d) left down) rfl 40 (.tmp 2) (.tmp 17) rfl (w.heap.size + 1) 0 rfl rfl 40 rZero (heap_alloc2_new w _ _) rdInfo (Nat.le_refl 4) (rd_one _ _ _ _ _ _ _ _) (rCells (.slice A n c) (.slice B m d) left down) (putRow_all _ _ rfl) ?_; intro w3 hu3)))
      rw [HC.out]
      refine bodyPost_ret (results_ct (cs := rCells (.slice A n c) (.slice B m d) left down) rfl _ _ (w.heap.size + 1) 40 _ _ rfl rfl hu3.same Try.underlying40 rfl rdInfo) rfl ⟨rfl, ?_⟩
      exact (((Below.refl _ _).alloc (Nat.le_refl _) _).alloc (by simp) _).trans (hu3.below (by omega))
theorem rd_built : Try.prog.built 40 [(2, .int .i64 (-1))] = some (rCells (.slice none 0 0) (.slice none 0 0) (-1) false) := by kernel_rfl
theorem rd_built0 : Try.prog.built 40 [] = some rZero := by kernel_rfl
theorem rz_one : ∀ v ∈ rZero.toList, v.oneCell' = true := by
  intro v hv
  simp only [rZero, List.mem_cons, List.not_mem_nil, or_false] at hv
  rcases hv with rfl | rfl | rfl | rfl <;> rfl
set_option maxRecDepth 100000 in
set_option maxHeartbeats 800000 in
theorem rnew_bad (w : World) (n : Int) (h : n < 1 ∨ 2048 < n) :
    Calls Try.prog 25 #[.int .i64 n] w fun e w' => e = .returned (.tuple #[.agg rZero, .int .i64 2]) ∧ Below w.heap.size w w' := by
  have h' : n < 1 ∨ (¬ n < 1 ∧ 2048 < n) := by omega
  clear h
  rcases h' with h1 | ⟨h1, h2⟩
  all_goals
    go_enter Try.func25, Try.ntmps25
    go_wp2_with (first
      | ((with_reducible refine at_build 13 ?_); go_must (refine wpList_build2 rfl 40 [] rfl [] rfl rZero rd_built0 ?_))
      | ((with_reducible refine at_store (.tmp 2) (.tmp 13) ?_); go_must (refine wpList_store_agg (cells := rZero) rfl 40 (.tmp 2) (.tmp 13) rfl w.heap.size 0 rfl rfl 40 rZero (blk_new w _) rdInfo (Nat.le_refl 4) rz_one rZero (putRow_all _ _ rfl) ?_; intro w3 hu3)))
    refine bodyPost_ret (results_ct (cs := rZero) rfl _ _ w.heap.size 40 _ _ rfl rfl hu3.same Try.underlying40 rfl rdInfo) rfl ⟨rfl, ?_⟩
    exact ((Below.refl _ _).alloc (Nat.le_refl _) _).trans (hu3.below (Nat.le_refl _))
theorem blk_oneS {w : World} {z : ByteArray} {t : TypeId} : ∀ j u, ([Value.string z] : List Value)[j]? = some u → (w.alloc (.cells #[.string z] t)).cell? ((⟨w.heap.size, 0, none⟩ : Addr).add j) = some u := by
  intro j u hj
  rw [addr_add, Nat.zero_add]
  exact blk_cell (blk_new w _) (by rw [← hj]; simp)
theorem one_ofS {z : ByteArray} : ∀ u ∈ ([Value.string z] : List Value), u.oneCell' = true := by
  intro u hu
  simp only [List.mem_cons, List.not_mem_nil, or_false] at hu
  rw [hu]
  rfl
set_option maxRecDepth 100000 in
set_option maxHeartbeats 1600000 in
theorem refnew_any (w : World) (S : Nat → Prop) (n : Nat) (h1 : 1 ≤ n) (h2 : n ≤ 2048) (hS : ∀ k, S k → k < w.heap.size) :
    Calls Try.prog 25 #[.int .i64 n] w fun e w' => ∃ v, e = .returned (.tuple #[v, .int .i64 0]) ∧ RefIs w' S v ⟨n, fun _ => zeros256, [], -1, false⟩ ∧ Below w.heap.size w w' := by
  have h1' : ¬ (n : Int) < 1 := by omega
  have h2' : ¬ (2048 : Int) < n := by omega
  obtain ⟨i0, hi, hz0, hz1, hz2⟩ := info_parts strInfo
  have HI0 := bx hi; have HI1 := bx hz0; have HI2 := bx hz1; have HI3 := bx hz2; have HS := bx hS
  clear hi hz0 hz1 hz2 hS
  obtain ⟨z, hz⟩ : ∃ z, z = strOfNums zeros256 := ⟨_, rfl⟩
  have HZ := bx hz
  clear hz
  go_enter Try.func25, Try.ntmps25
  go_wp2_with (first
    | ((with_reducible refine at_build 14 ?_); go_must (refine wpList_build2 rfl 40 [(2, .const (.int .i64 (-1)))] rfl _ rfl (rCells (.slice none 0 0) (.slice none 0 0) (-1) false) rd_built ?_))
    | ((with_reducible refine at_store (.tmp 4) (.tmp 14) ?_); go_must (refine wpList_store_agg (cells := rCells (.slice none 0 0) (.slice none 0 0) (-1) false) rfl 40 (.tmp 4) (.tmp 14) rfl (w.heap.size + 1) 0 rfl rfl 40 rZero (heap_alloc2_new w _ _) rdInfo (Nat.le_refl 4) (rd_one _ _ _ _ _ _ _ _) (rCells (.slice none 0 0) (.slice none 0 0) (-1) false) (putRow_all _ _ rfl) ?_; intro w1 hu1)))
  have B1 : Below w.heap.size w w1 := (((Below.refl _ _).alloc (Nat.le_refl _) _).alloc (by simp) _).trans (hu1.below (by omega))
  have hk1 : w1.heap[w.heap.size + 1]? = some (.cells (rCells (.slice none 0 0) (.slice none 0 0) (-1) false) 40 (0, 0)) := hu1.same
  have hk0 : w1.heap[w.heap.size]? = some (.cells rZero 40 (0, 0)) := hu1.blk (heap_alloc2_old w _ _) (by omega)
  have hz1 : w.heap.size + 2 ≤ w1.heap.size := by rw [hu1.size]; simp
  have HK1 := bx hk1; have HK0 := bx hk0; have BB1 := bx B1; have Z1 := bx hz1
  clear hu1 hk1 hk0 B1 hz1
  refine (rzeros_any w1 256 (Nat.le_refl _)).mono ?_
  rintro e w2 ⟨rfl, rfl⟩
  rw [show strOfNums (List.replicate 256 0) = z from HZ.out.symm]
  go_wp2_with fail
  go_loopw [6] (fun q wr => ∃ (k : Nat) (A : Option Addr) (c : Nat), k ≤ n ∧ q = .int .i64 k ∧ wr.heap[w.heap.size + 1]? = some (.cells (rCells (.slice A k c) (.slice none 0 0) (-1) false) 40 (0, 0)) ∧ wr.heap[w.heap.size]? = some (.cells rZero 40 (0, 0)) ∧ wr.ownsRow (w.heap.size + 2) 9 1 (.slice A k c) k (safeCells (fun _ => zeros256) k) ∧ Below w.heap.size w wr) (fun q _ => n - (intOf q).toNat)
  case atStart => exact ⟨0, none, 0, Nat.zero_le _, rfl, HK1.out, HK0.out, World.ownsRow_nil _ _ _ _, BB1.out⟩
  case round =>
    obtain ⟨k, A, c, hk, rfl, hA1, hA0, ho, hb⟩ := hrel
    have HO := bx ho; have BR := bx hb; have HA1 := bx hA1; have HA0 := bx hA0
    have c0 : wr.cell? ⟨w.heap.size + 1, 0, none⟩ = some (.slice A k c) := blk_cell hA1 rfl
    have ZR : Bx (w.heap.size + 2 ≤ wr.heap.size) := ⟨by have := blk_lt hA1; omega⟩
    clear ho hb hA1 hA0
    by_cases hlt : k < n
    · have hlt' : (k : Int) < n := by omega
      have HB2 : Bx (k + 1 ≤ maxLen ∧ (k + 1) * 16 ≤ 140737488355328) := ⟨by simp only [maxLen]; omega, by omega⟩
      have BA := bx (BR.out.alloc BR.out.size (.cells #[.string z] 9))
      go_wp2_with (first
        | ((with_reducible refine at_call 25 ?_); go_must (refine wpList_append_own _ rfl (.tmp 22) (.tmp 24) 37 rfl (w.heap.size + 2) 9 i0 _ 1 16 Try.underlying37 HI0.out HI1.out HI2.out HI3.out rfl (by decide) _ k _ rfl (HO.out.alloc _) ⟨wr.heap.size, 0, none⟩ 1 1 [.string z] rfl rfl blk_oneS one_ofS HB2.out.1 HB2.out.2 (by have := ZR.out; simp; omega) ?_; intro v' w' q1 q2 q3; obtain ⟨A', c', rfl⟩ := ownsRow_sl q1; have hne : ∀ j, (Value.slice A k c).ownBlock = some j → w.heap.size + 2 ≤ j := fun j hj => (World.ownsRow.lt HO.out j hj).1; have g1 : w'.heap[w.heap.size + 1]? = some (.cells (rCells (.slice A k c) (.slice none 0 0) (-1) false) 40 (0, 0)) := (q2.block _ (by have := ZR.out; simp; omega) (fun e => by have := hne _ e.symm; omega)).trans (blk_alloc HA1.out); have g0 : w'.heap[w.heap.size]? = some (.cells rZero 40 (0, 0)) := (q2.block _ (by have := ZR.out; simp; omega) (fun e => by have := hne _ e.symm; omega)).trans (blk_alloc HA0.out); have G1 := bx g1; have G0 := bx g0; have K1 := bx q1; have K2 := bx (BA.out.grown q2 BA.out.size (fun j hj => by have := hne j hj; omega)); have f0 : w'.frozen? ⟨w.heap.size + 1, 0, none⟩ = false := blk_frozen 0 g1; have e0 : w'.cell? ⟨w.heap.size + 1, 0, none⟩ = some (.slice A k c) := blk_cell g1 rfl; clear q1 q2 q3 g1 g0 hne)))
      have hu := upd_cell G1.out (j := 0) (.slice A' (k + 1) c')
      exact ⟨⟨k + 1, A', c', by omega, by go_num, hu.same, hu.blk G0.out (by omega), by rw [safeCells_succ, ← HZ.out]; exact ownsRow_same K1.out fun j hj => hu.other j (by have := (World.ownsRow.lt K1.out j hj).1; omega), K2.out.trans (hu.below (by omega))⟩, by simp [intOf]; omega⟩
    · obtain rfl : k = n := by omega
      have hlt' : ¬ (k : Int) < k := by omega
      go_wp2_with (first
        | ((with_reducible refine at_load 27 ?_); go_must (refine wpList_load_agg rfl 40 (.tmp 4) rfl (w.heap.size + 1) 0 rfl 40 _ 4 _ HA1.out Try.underlying40 rfl rdInfo (Nat.le_refl 4) (rCells (.slice A k c) (.slice none 0 0) (-1) false) rfl ?_))
        | ((with_reducible refine at_store (.tmp 2) (.tmp 27) ?_); go_must (refine wpList_store_agg (cells := rCells (.slice A k c) (.slice none 0 0) (-1) false) rfl 40 (.tmp 2) (.tmp 27) rfl w.heap.size 0 rfl rfl 40 rZero HA0.out rdInfo (Nat.le_refl 4) (rd_one _ _ _ _ _ _ _ _) (rCells (.slice A k c) (.slice none 0 0) (-1) false) (putRow_all _ _ rfl) ?_; intro w3 hu3)))
      refine bodyPost_ret (results_ct (cs := rCells (.slice A k c) (.slice none 0 0) (-1) false) rfl _ _ w.heap.size 40 _ _ rfl rfl hu3.same Try.underlying40 rfl rdInfo) rfl ?_
      have hge : ∀ j, (Value.slice A k c).ownBlock = some j → w.heap.size + 2 ≤ j := fun j hj => (World.ownsRow.lt HO.out j hj).1
      refine ⟨_, rfl, ⟨A, c, none, 0, rfl, ?_⟩, BR.out.trans (hu3.below (Nat.le_refl _))⟩
      exact ⟨(ownsRow_base (ownsRow_same HO.out fun j hj => hu3.other j (by have := hge j hj; omega)) (Nat.zero_le _)).1, World.ownsRow_nil _ _ _ _, fun j hj hs => by have := hge j hj; have := HS.out j hs; omega, fun j hj => by cases hj⟩
end Go.Proofs.Ythnommoljikaiaa
