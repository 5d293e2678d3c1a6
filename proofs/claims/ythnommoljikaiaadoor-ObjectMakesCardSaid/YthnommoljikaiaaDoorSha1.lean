/- Walks over the small functions of sha. -/
import Derived.Test.YthnommoljikaiaaDoorRows
import Derived.Test.YthnommoljikaiaaDoorAid
set_option linter.unusedSimpArgs false
set_option linter.unusedVariables false
namespace Go.Proofs.YthnommoljikaiaaDoor
open Go.RowKit

def rotr (x : Int) (n : Nat) : Int := bits .or .u32 ((x * 2 ^ (32 - n) % 4294967296)) (x / 2 ^ n)

theorem rotl_any (x : Int) (n : Nat) (h0 : 0 < n) (h1 : n < 32) (w : World) :
    Calls Tryd.prog 108 #[.int .u32 x, .int .i64 (-(n : Int))] w fun e w' => e = .returned (.int .u32 (rotr x n)) ∧ w = w' := by
  have e1 : bits .and .u64 (IntKind.u64.wrap (-(n : Int))) 31 = ((32 - n : Nat) : Int) := by
    have : n = 1 ∨ n = 2 ∨ n = 3 ∨ n = 4 ∨ n = 5 ∨ n = 6 ∨ n = 7 ∨ n = 8 ∨ n = 9 ∨ n = 10 ∨ n = 11 ∨ n = 12 ∨ n = 13 ∨ n = 14 ∨ n = 15 ∨ n = 16 ∨ n = 17 ∨ n = 18 ∨ n = 19 ∨ n = 20 ∨ n = 21 ∨ n = 22 ∨ n = 23 ∨ n = 24 ∨ n = 25 ∨ n = 26 ∨ n = 27 ∨ n = 28 ∨ n = 29 ∨ n = 30 ∨ n = 31 := by omega
    rcases this with rfl | rfl | rfl | rfl | rfl | rfl | rfl | rfl | rfl | rfl | rfl | rfl | rfl | rfl | rfl | rfl | rfl | rfl | rfl | rfl | rfl | rfl | rfl | rfl | rfl | rfl | rfl | rfl | rfl | rfl | rfl <;> decide
  have e2 : IntKind.u64.wrap (32 - ((32 - n : Nat) : Int)) = n := by unfold IntKind.wrap; simp [IntKind.bits]; omega
  go_enter Tryd.func108, Tryd.ntmps108
  go_wp2
  go_ret
  exact ⟨rfl, rfl⟩


theorem turned_any (x N : Int) (h0 : 0 < N) (h1 : N < 32) (w : World) :
    Calls Tryd.prog 104 #[.int .u32 x, .int .i64 N] w fun e w' => e = .returned (.int .u32 (rotr x N.toNat)) ∧ w = w' := by
  obtain ⟨n, rfl⟩ := Int.eq_ofNat_of_zero_le (Int.le_of_lt h0)
  rw [Int.toNat_natCast]
  go_enter Tryd.func104, Tryd.ntmps104
  go_wp2_with (go_at_call 108; refine (rotl_any _ _ (by omega) (by omega) _).mono ?_; rintro e w' ⟨rfl, rfl⟩)
  go_ret
  exact ⟨rfl, rfl⟩

/-- The words of the rounds, so far as t goes. -/
def word (bs : List Int) (t : Nat) : Int := (List.range 4).foldl (fun x j => bits .or .u32 (x * 256 % 4294967296) (bs.getD (4 * t + j) 0)) 0
def low (x : Int) : Int := bits .xor .u32 (bits .xor .u32 (rotr x 7) (rotr x 18)) (x / 8)
def high (y : Int) : Int := bits .xor .u32 (bits .xor .u32 (rotr y 17) (rotr y 19)) (y / 1024)
def nextw (bs : List Int) (w : List Int) (t : Nat) : Int :=
  if t < 16 then word bs t else (w[t - 16]?.getD 0 + low (w[t - 15]?.getD 0) + w[t - 7]?.getD 0 + high (w[t - 2]?.getD 0)) % 4294967296
def sched (bs : List Int) : Nat → List Int
  | 0 => List.replicate 64 0
  | t + 1 => (sched bs t).set t (nextw bs (sched bs t) t)

theorem sched_length (bs : List Int) (t : Nat) : (sched bs t).length = 64 := by
  induction t with
  | zero => simp [sched]
  | succ t ih => simp [sched, ih]
def word' (bs : List Int) (t n : Nat) : Int := (List.range n).foldl (fun x j => bits .or .u32 (x * 256 % 4294967296) (bs.getD (4 * t + j) 0)) 0
theorem word'_succ (bs : List Int) (t n : Nat) : word' bs t (n + 1) = bits .or .u32 (word' bs t n * 256 % 4294967296) (bs.getD (4 * t + n) 0) := by
  simp [word', List.range_succ]

theorem sched_fresh (bs : List Int) (t j : Nat) (h : t ≤ j) : (sched bs t).getD j 0 = 0 := by
  induction t with
  | zero =>
    simp only [sched, List.getD_eq_getElem?_getD, List.getElem?_replicate]
    split <;> rfl
  | succ t ih =>
    have := ih (by omega)
    simp only [sched, List.getD_eq_getElem?_getD] at this ⊢
    rw [List.getElem?_set_ne (by omega)]
    exact this
theorem sched_next (bs : List Int) (m : Nat) : sched bs (m + 16 + 1) = (sched bs (m + 16)).set (m + 16) (((sched bs (m + 16))[m]?.getD 0 +
    bits .xor .u32 (bits .xor .u32 (rotr ((sched bs (m + 16))[m + 1]?.getD 0) 7) (rotr ((sched bs (m + 16))[m + 1]?.getD 0) 18)) ((sched bs (m + 16))[m + 1]?.getD 0 / 8) +
    (sched bs (m + 16))[m + 9]?.getD 0 +
    bits .xor .u32 (bits .xor .u32 (rotr ((sched bs (m + 16))[m + 14]?.getD 0) 17) (rotr ((sched bs (m + 16))[m + 14]?.getD 0) 19)) ((sched bs (m + 16))[m + 14]?.getD 0 / 1024)) % 4294967296) := by
  show (sched bs (m + 16)).set (m + 16) (nextw bs (sched bs (m + 16)) (m + 16)) = _
  generalize sched bs (m + 16) = S
  unfold nextw low high
  rw [if_neg (by omega)]
  have e1 : m + 16 - 15 = m + 1 := by omega
  have e2 : m + 16 - 7 = m + 9 := by omega
  have e3 : m + 16 - 2 = m + 14 := by omega
  have e4 : m + 16 - 16 = m := by omega
  simp only [e1, e2, e3, e4]
theorem set_same (l : List Int) (t : Nat) (x : Int) (h : t < l.length) (hx : l.getD t 0 = x) : l.set t x = l := by
  apply List.ext_getElem (by simp)
  intro i h1 h2
  rw [List.getElem_set]
  split
  · rename_i e
    subst e
    rw [← hx, List.getD_eq_getElem?_getD, List.getElem?_eq_getElem h]
    rfl
  · rfl

theorem getD_set_self (l : List Int) (t : Nat) (x : Int) (h : t < l.length) : (l.set t x).getD t 0 = x := by
  simp [List.getD_eq_getElem?_getD, h]
set_option maxRecDepth 100000 in
set_option maxHeartbeats 2000000 in
theorem schedule_any (g off : Nat) (bs : List Int) (w : World) (hb : ∀ j, j < 64 → w.cell? ⟨g, off + j, none⟩ = some (.int .u8 (bs.getD j 0))) (hr : ∀ j, 0 ≤ bs.getD j 0 ∧ bs.getD j 0 < 256)
    (hg : g < w.heap.size) :
    Calls Tryd.prog 102 #[.pointer (some ⟨g, off, none⟩)] w fun e w' => e = .returned (.agg (ints .u32 (sched bs 64))) ∧ Below w.heap.size w w' := by
  go_enter Tryd.func102, Tryd.ntmps102
  go_wp2
  obtain ⟨B, hB⟩ : ∃ B, B = w.heap.size := ⟨_, rfl⟩
  rw [← hB]
  have hgB : g < B := by omega
  have HB := Lib.hid hB
  clear hB hg
  go_loopw [11] (fun i wr => ∃ t : Nat, t ≤ 64 ∧ i = .int .i64 t ∧ wr.heap[B + 1]? = some (.cells (ints .u32 (sched bs t)) 159 (0, 0)) ∧ (∃ c, c.size = 64 ∧ wr.heap[B]? = some (.cells c 159 (0, 0))) ∧ Below B w wr)
    (fun i _ => 64 - (intOf i).toNat)
  case atStart =>
    refine ⟨0, by omega, rfl, ?_, ⟨(List.replicate 64 (Value.int .u32 0)).toArray, by decide, ?_⟩, ?_⟩
    · rw [HB.out]; exact heap_alloc2_new w _ _
    · rw [HB.out]; exact heap_alloc2_old w _ _
    · exact ((Below.refl _ _).alloc (Nat.le_of_eq HB.out) _).alloc (by rw [HB.out]; simp) _
  case round =>
    obtain ⟨t, ht, rfl, hW, ⟨c0, hc0, hC0⟩, hbel⟩ := hrel
    by_cases hlt : t < 64
    · by_cases h16 : t < 16
      · have hs := arr_slice_lh Tryd.underlying138 Tryd.sizeOf5 g off (4 * t) (4 * t + 4) (by omega) (by omega) .i64 .i64 (4 * (t : Int)) (4 * (t : Int) + 4) (by omega) (by omega)
        have e64 : ¬ (64 : Nat) = 4 * t := by omega
        simp only [e64, if_false] at hs
        have hs2 : 4 * t + 4 - 4 * t = 4 := by omega
        rw [hs2] at hs
        clear hs2 e64
        go_wp2
        go_loopw [25] (fun i ws => ∃ n : Nat, n ≤ 4 ∧ i = .int .i64 n ∧ ws.heap[B + 1]? = some (.cells (ints .u32 ((sched bs t).set t (word' bs t n))) 159 (0, 0)) ∧ ws.heap[B]? = some (.cells c0 159 (0, 0)) ∧ Below B w ws)
          (fun i _ => 4 - (intOf i).toNat)
        case atStart =>
          refine ⟨0, by omega, rfl, ?_, hC0, hbel⟩
          rw [set_same _ _ _ (by rw [sched_length]; omega) (by rw [sched_fresh _ _ _ (Nat.le_refl _)]; rfl)]
          exact hW
        case round =>
          obtain ⟨n, hn, rfl, hWn, hCn, hbn⟩ := hrel
          by_cases hn4 : n < 4
          · have hcell := (hbn.cell (p := ⟨g, off + (4 * t + n), none⟩) hgB).trans (hb (4 * t + n) (by omega))
            rw [← Nat.add_assoc] at hcell
            have hrn := hr (4 * t + n)
            have hw1 := blk_int hWn t (by simp [sched_length]; omega)
            rw [getD_set_self _ _ _ (by rw [sched_length]; omega)] at hw1
            have hw2 := blk_frozen t hWn
            go_wp2
            go_roundw
            case rel =>
              refine ⟨n + 1, by omega, by go_num, ?_, blk_other hCn (by simp), hbn.setCell (by simp) _⟩
              rw [blk_set hWn, List.set_set, word'_succ]
              rw [← List.getD_eq_getElem?_getD, Int.emod_eq_of_lt (b := 4294967296) (a := bs.getD (4 * t + n) 0) (by omega) (by omega)]
            case measure => simp [intOf]; omega
          · go_wp2
            obtain rfl : n = 4 := by omega
            go_roundw
            case rel => exact ⟨t + 1, by omega, by go_num, by simp only [sched, nextw, if_pos h16]; exact hWn, ⟨c0, hc0, hCn⟩, hbn⟩
            case measure => simp [intOf]; omega
      · obtain ⟨m, rfl⟩ : ∃ m, t = m + 16 := ⟨t - 16, by omega⟩
        have c1 := blk_int hW (m + 1) (by rw [sched_length]; omega)
        have c2 := blk_int hW (m + 14) (by rw [sched_length]; omega)
        have c3 := blk_int hW m (by rw [sched_length]; omega)
        have c4 := blk_int hW (m + 9) (by rw [sched_length]; omega)
        have c5 := blk_frozen (m + 16) hW
        have c6 := blk_int hW (m + 16) (by rw [sched_length]; omega)
        go_wp2
        go_quiet (fail)
        go_wp2_with (go_at_call 104; refine (turned_any _ _ (by omega) (by omega) _).mono ?_; rintro e w' ⟨rfl, rfl⟩)
        have d3 : (wr.drewN nq).cell? ⟨B + 1, m, none⟩ = some (Value.int .u32 ((sched bs (m + 16)).getD m 0)) := c3
        go_region
        all_goals
          go_wp2
          go_roundw
          case rel =>
            refine ⟨m + 16 + 1, by omega, by go_num, ?_, ⟨c0, hc0, blk_other hC0 (by simp)⟩, (drewN_below hbel _).setCell (by simp) _⟩
            have hW' : (wr.drewN (nq + 1)).heap[B + 1]? = some (.cells (ints .u32 (sched bs (m + 16))) 159 (0, 0)) := hW
            rw [sched_next]
            exact blk_set hW' _ _
          case measure => simp [intOf]; omega
    · obtain rfl : t = 64 := by omega
      have hl : (sched bs 64).length = 64 := sched_length bs 64
      have hsz : (ints .u32 (sched bs 64)).size = 64 := by rw [ints_size, hl]
      have hex : (ints .u32 (sched bs 64)).extract 0 (0 + 64) = ints .u32 (sched bs 64) := ints_extract_all .u32 _ 64 hl
      have hpr : putRow c0 0 (ints .u32 (sched bs 64)).toList = ints .u32 (sched bs 64) := by rw [putRow_all _ _ (by rw [Array.length_toList, hsz, hc0])]
      have hin : (Tryd.prog.info? 159).map (·.size) = some 64 := by kernel_rfl
      have hin' : (Tryd.prog.info? 159).map (·.size) = some (ints .u32 (sched bs 64)).size := by rw [hsz]; exact hin
      have h1c := ints_oneCell .u32 (sched bs 64)
      generalize hV : ints .u32 (sched bs 64) = V at *
      have HV := Lib.hid hV; clear hV
      have H1 := Lib.hid hex; have H2 := Lib.hid hpr; have H3 := Lib.hid hin; have H4 := Lib.hid hin'; have H5 := Lib.hid hsz; have H6 := Lib.hid hc0; have H7 := Lib.hid h1c
      clear hex hpr hin hin' hsz hc0 hl h1c
      go_wp2_with (first
        | ((with_reducible refine at_load 79 ?_); have q1 := H3.out; have q2 := H5.out; refine wpList_load_agg rfl 159 (.tmp 3) rfl (B + 1) 0 rfl 159 V 64 _ hW Tryd.underlying159 rfl q1 (by rw [q2]; decide) V H1.out ?_; clear q1 q2)
        | ((with_reducible refine at_store (.tmp 2) (.tmp 79) ?_); have q1 := H4.out; have q2 := H5.out; have q3 := H6.out; have q4 := H7.out; have q5 := H2.out; refine wpList_store_agg (cells := V) rfl 159 (.tmp 2) (.tmp 79) rfl B 0 rfl rfl 159 c0 hC0 q1 (by rw [q2, q3]; decide) q4 V q5 ?_; clear q1 q2 q3 q4 q5; intro w' hu))
      refine bodyPost_ret (v := .agg V) (results_agg rfl _ _ B 159 _ _ rfl hu.same Tryd.underlying159 rfl H4.out) rfl ⟨by rw [HV.out], ?_⟩
      rw [← HB.out]
      exact hbel.trans (hu.below (Nat.le_refl _))

def iv : List Int := [0x6a09e667, 0xbb67ae85, 0x3c6ef372, 0xa54ff53a, 0x510e527f, 0x9b05688c, 0x1f83d9ab, 0x5be0cd19]
def ks : List Int := [
    0x428a2f98, 0x71374491, 0xb5c0fbcf, 0xe9b5dba5, 0x3956c25b, 0x59f111f1, 0x923f82a4, 0xab1c5ed5,
    0xd807aa98, 0x12835b01, 0x243185be, 0x550c7dc3, 0x72be5d74, 0x80deb1fe, 0x9bdc06a7, 0xc19bf174,
    0xe49b69c1, 0xefbe4786, 0x0fc19dc6, 0x240ca1cc, 0x2de92c6f, 0x4a7484aa, 0x5cb0a9dc, 0x76f988da,
    0x983e5152, 0xa831c66d, 0xb00327c8, 0xbf597fc7, 0xc6e00bf3, 0xd5a79147, 0x06ca6351, 0x14292967,
    0x27b70a85, 0x2e1b2138, 0x4d2c6dfc, 0x53380d13, 0x650a7354, 0x766a0abb, 0x81c2c92e, 0x92722c85,
    0xa2bfe8a1, 0xa81a664b, 0xc24b8b70, 0xc76c51a3, 0xd192e819, 0xd6990624, 0xf40e3585, 0x106aa070,
    0x19a4c116, 0x1e376c08, 0x2748774c, 0x34b0bcb5, 0x391c0cb3, 0x4ed8aa4a, 0x5b9cca4f, 0x682e6ff3,
    0x748f82ee, 0x78a5636f, 0x84c87814, 0x8cc70208, 0x90befffa, 0xa4506ceb, 0xbef9a3f7, 0xc67178f2]

theorem below_new {w w' : World} (o : Obj) (h : Below w.heap.size (w.alloc o) w') : Below w.heap.size w w' := ((Below.refl _ _).alloc (Nat.le_refl _) o).trans h
set_option maxRecDepth 100000 in
theorem begin_any (w : World) :
    Calls Tryd.prog 93 #[] w fun e w' => e = .returned (.agg (ints .u32 iv)) ∧ Below w.heap.size w w' := by
  go_enter Tryd.func93, Tryd.ntmps93
  go_wp2
  refine bodyPost_ret (v := .agg (ints .u32 iv)) (results_agg (cs := ints .u32 iv) rfl _ _ w.heap.size 136 _ rfl (blk_new w _) Tryd.underlying136 rfl (by kernel_rfl)) rfl ⟨rfl, ?_⟩
  exact (Below.refl _ _).alloc (Nat.le_refl _) _

set_option maxRecDepth 100000 in
theorem constants_any (w : World) :
    Calls Tryd.prog 103 #[] w fun e w' => e = .returned (.agg (ints .u32 ks)) ∧ Below w.heap.size w w' := by
  go_enter Tryd.func103, Tryd.ntmps103
  have hin : (Tryd.prog.info? 159).map (·.size) = some (ints .u32 ks).size := by kernel_rfl
  have h1c := ints_oneCell .u32 ks
  have hp : putRow (List.replicate 64 (Value.int .u32 0)).toArray 0 (ints .u32 ks).toList = ints .u32 ks := by rw [putRow_all _ _ (by decide)]
  have hsz : 0 + (ints .u32 ks).size ≤ 64 := by decide
  have H1 := Lib.hid hin; have H2 := Lib.hid h1c; have H3 := Lib.hid hp; have H4 := Lib.hid hsz
  clear hin h1c hp hsz
  go_wp2_with (first
    | ((with_reducible refine at_build 1 ?_); refine wpList_build_val rfl 159 _ rfl (ints .u32 ks) (by kernel_rfl) ?_)
    | ((with_reducible refine at_store (.tmp 0) (.tmp 1) ?_); refine wpList_store_agg (cells := ints .u32 ks) rfl 159 (.tmp 0) (.tmp 1) rfl w.heap.size 0 rfl rfl 159 (List.replicate 64 (Value.int .u32 0)).toArray (blk_new w _) H1.out (by simpa using H4.out) H2.out (ints .u32 ks) H3.out ?_; intro w' hu))
  refine bodyPost_ret (v := .agg (ints .u32 ks)) (results_agg (cs := ints .u32 ks) rfl _ _ w.heap.size 159 _ rfl hu.same Tryd.underlying159 rfl H1.out) rfl ⟨rfl, ?_⟩
  exact below_new _ (hu.below (Nat.le_refl _))
end Go.Proofs.YthnommoljikaiaaDoor
