/- The walks over sha's New, Sum, Of. -/
import Derived.Test.YthnommoljikaiaaDoorSha4
set_option linter.unusedSimpArgs false
set_option linter.unusedVariables false
namespace Go.Proofs.YthnommoljikaiaaDoor
open Go.RowKit

def hs0 : Hs := { st := iv, rest := List.replicate 64 0, n := 0 }
theorem hash_oneCell (made : Bool) (st rest : List Int) (n : Int) : ∀ v ∈ (hashCells made st rest n).toList, v.oneCell' = true := by
  intro v hv
  simp only [hashCells, List.mem_cons, List.mem_append, List.mem_map, List.mem_singleton, List.not_mem_nil, or_false] at hv
  rcases hv with rfl | (⟨x, _, rfl⟩ | ⟨x, _, rfl⟩) | rfl <;> rfl
def Stop (p : Prop) : Prop := p
theorem stop_here {p : Prop} (h : Stop p) : p := h
theorem isB_zeros (n : Nat) : IsB (List.replicate n 0) := by
  intro j
  simp only [List.getD_eq_getElem?_getD, List.getElem?_replicate]
  split <;> exact ⟨by decide, by decide⟩
theorem isB_one {c : Int} (h : 0 ≤ c ∧ c < 256) : IsB [c] := by
  intro j
  match j with
  | 0 => exact h
  | j + 1 => exact ⟨by simp, by simp⟩

set_option maxRecDepth 100000 in
set_option maxHeartbeats 600000 in
theorem new_any (w : World) :
    Calls Tryd.prog 84 #[] w fun e w' => ∃ B, e = .returned (.pointer (some ⟨B, 0, none⟩)) ∧ w.heap.size ≤ B ∧ w'.heap[B]? = some (.cells (hsCells hs0) 140 (0, 0)) ∧ Below w.heap.size w w' := by
  go_enter Tryd.func84, Tryd.ntmps84
  go_wp2_with fail
  refine (begin_any w).mono ?_
  rintro e w1 ⟨rfl, hb1⟩
  go_wp2_with (first
    | ((with_reducible refine at_build 2 ?_); go_must (refine wpList_build_val rfl 140 _ rfl (hsCells hs0) (by kernel_rfl) ?_)))
  go_ret
  exact ⟨w1.heap.size, rfl, hb1.size, blk_new w1 _, hb1.alloc hb1.size _⟩

theorem rdX_one {w : World} {g b : Nat} {c : Int} (hne : b ≠ g) (hbl : b < w.heap.size) (hcell : w.cell? ⟨b, 0, none⟩ = some (.int .u8 c)) : RdX w g (some ⟨b, 0, none⟩) 1 [c] := by
  refine ⟨rfl, fun _ => ⟨b, 0, rfl, hne, hbl, fun j hj => ?_⟩⟩
  have hj0 : j = 0 := by omega
  subst hj0
  exact hcell
theorem write1_any (g : Nat) (h : Hs) (b : Nat) (c : Int) (T : TypeId) (w : World) (hst : h.st.length = 8) (hrest : h.rest.length = 64) (hB : IsB h.rest) (hc : 0 ≤ c ∧ c < 256)
    (hne : b ≠ g) (hbl : b < w.heap.size) (hcell : w.cell? ⟨b, 0, none⟩ = some (.int .u8 c)) (hbig : h.n + 1 ≤ 4611686018427387904) (hg : w.heap[g]? = some (.cells (hsCells h) T (0, 0))) :
    Calls Tryd.prog 85 #[.pointer (some ⟨g, 0, none⟩), .slice (some ⟨b, 0, none⟩) 1 1] w fun e w' =>
      e = .returned (.tuple #[]) ∧ Put1 w w' g (.cells (hsCells (absorb h c)) T (0, 0)) :=
  write_any g h _ 1 1 [c] T w hst hrest hB (isB_one hc) (rdX_one hne hbl hcell) (by omega) hbig hg

def zerosOf (n : Nat) : Nat := (120 - (n + 1) % 64) % 64
def lenByte (count : Int) (j : Nat) : Int := count / 2 ^ (8 * (7 - j)) % 256
def lenBytes (count : Int) (k : Nat) : List Int := (List.range k).map (lenByte count)
def h1 (h : Hs) : Hs := absorb h 128
def h2 (h : Hs) (j : Nat) : Hs := absorbs (h1 h) (List.replicate j 0)
def h3 (h : Hs) (k : Nat) : Hs := absorbs (h2 h (zerosOf h.n)) (lenBytes (h.n * 8) k)
def outByte (st : List Int) (i : Nat) : Int := (st[i / 4]?.getD 0) / 2 ^ (8 * (3 - i % 4)) % 256
def outBytes (st : List Int) : Nat → List Int
  | 0 => List.replicate 32 0
  | i + 1 => (outBytes st i).set i (outByte st i)
def digest (h : Hs) : List Int := outBytes (h3 h 8).st 32
theorem outBytes_length (st : List Int) (i : Nat) : (outBytes st i).length = 32 := by
  induction i with
  | zero => simp [outBytes]
  | succ i ih => simp [outBytes, ih]
/-- A hash as it must be. -/
structure Hs.Ok (h : Hs) : Prop where
  st : h.st.length = 8
  rest : h.rest.length = 64
  isB : IsB h.rest
theorem Hs.Ok.absorb {h : Hs} (k : h.Ok) {c : Int} (hc : 0 ≤ c ∧ c < 256) : (absorb h c).Ok :=
  ⟨absorbs_st [c] h k.st, absorbs_rest [c] h k.rest, absorbs_isB [c] h k.isB (isB_one hc)⟩
theorem Hs.Ok.absorbs {h : Hs} (k : h.Ok) {bs : List Int} (hc : IsB bs) : (absorbs h bs).Ok :=
  ⟨absorbs_st bs h k.st, absorbs_rest bs h k.rest, absorbs_isB bs h k.isB hc⟩
theorem hs0_ok : hs0.Ok := ⟨rfl, rfl, isB_zeros 64⟩
theorem zerosOf_lt (n : Nat) : zerosOf n < 64 := Nat.mod_lt _ (by decide)
theorem zeros_cases (n : Nat) : ∃ q r, n + 1 = 64 * q + r ∧ r < 64 ∧ ((r ≤ 56 ∧ zerosOf n = 56 - r) ∨ (57 ≤ r ∧ zerosOf n = 120 - r)) := by
  obtain ⟨q, r, h, hr⟩ : ∃ q r, n + 1 = 64 * q + r ∧ r < 64 := ⟨(n + 1) / 64, (n + 1) % 64, by omega, by omega⟩
  have e : (n + 1) % 64 = r := by omega
  refine ⟨q, r, h, hr, ?_⟩
  unfold zerosOf
  rw [e]
  rcases Nat.lt_or_ge r 57 with h1 | h1
  · exact .inl ⟨by omega, by omega⟩
  · exact .inr ⟨by omega, by omega⟩
theorem zeros_ne (n j : Nat) (h : j < zerosOf n) : (((n : Int) + 1 + j) % 64 != 56) = true := by
  obtain ⟨q, r, h1, h2, h3⟩ := zeros_cases n
  rw [bne_iff_ne]
  rcases h3 with ⟨a, b⟩ | ⟨a, b⟩ <;> rw [b] at h <;> omega
theorem zeros_eq (n : Nat) : (((n : Int) + 1 + (zerosOf n : Nat)) % 64 != 56) = false := by
  obtain ⟨q, r, h1, h2, h3⟩ := zeros_cases n
  rw [bne_eq_false_iff_eq]
  rcases h3 with ⟨a, b⟩ | ⟨a, b⟩ <;> rw [b] <;> omega
theorem put1_below {w w' : World} {g : Nat} {o : Obj} (h : Put1 w w' g o) {B : Nat} (hB : B ≤ g) (hs : B ≤ w.heap.size := by omega) : Below B w w' :=
  ⟨h.os, h.tape, h.output, h.size, fun k hk => h.other k (by omega) (by omega)⟩
theorem h2_succ (h : Hs) (j : Nat) : h2 h (j + 1) = absorb (h2 h j) 0 := by
  simp only [h2, List.replicate_succ', absorbs_append]; rfl
theorem h2_n (h : Hs) (j : Nat) : (h2 h j).n = h.n + 1 + j := by simp [h2, absorbs_n, h1, Go.Proofs.YthnommoljikaiaaDoor.absorb]
theorem h3_succ (h : Hs) (k : Nat) : h3 h (k + 1) = absorb (h3 h k) (lenByte (h.n * 8) k) := by
  simp only [h3, lenBytes, List.range_succ, List.map_append, absorbs_append]; rfl
theorem lenByte_range (c : Int) (j : Nat) : 0 ≤ lenByte c j ∧ lenByte c j < 256 := ⟨Int.emod_nonneg _ (by decide), Int.emod_lt_of_pos _ (by decide)⟩
theorem lenBytes_isB (c : Int) (k : Nat) : IsB (lenBytes c k) := by
  intro j
  simp only [lenBytes, List.getD_eq_getElem?_getD, List.getElem?_map]
  by_cases hj : j < k
  · rw [List.getElem?_range hj]; exact lenByte_range c j
  · rw [List.getElem?_eq_none (by simp; omega)]; exact ⟨Int.le_refl 0, by show (0 : Int) < 256; decide⟩
theorem h2_ok {h : Hs} (k : h.Ok) (j : Nat) : (h2 h j).Ok := (k.absorb (c := 128) (by decide)).absorbs (isB_zeros j)
theorem h3_ok {h : Hs} (k : h.Ok) (j : Nat) : (h3 h j).Ok := (h2_ok k _).absorbs (lenBytes_isB _ j)
theorem h3_n (h : Hs) (k : Nat) : (h3 h k).n = h.n + 1 + zerosOf h.n + k := by simp [h3, absorbs_n, h2_n, lenBytes]

set_option maxRecDepth 100000 in
set_option maxHeartbeats 600000 in
theorem hsum_any (g : Nat) (h : Hs) (w : World) (hok : h.Ok) (hbig : h.n ≤ 1152921504606846976) (hg : w.heap[g]? = some (.cells (hsCells h) 140 (0, 0))) :
    Calls Tryd.prog 86 #[.pointer (some ⟨g, 0, none⟩)] w fun e w' => e = .returned (.agg (ints .u8 (digest h))) ∧ Below w.heap.size w w' := by
  have hgs : g < w.heap.size := blk_lt hg
  have c0 : w.cell? ⟨g, 0, none⟩ = some (.bool true) := blk_cell hg rfl
  have Hg := Lib.hid hg; have Hok := Lib.hid hok
  clear hg hok
  go_enter Tryd.func86, Tryd.ntmps86
  go_wp2_with fail
  refine (new_any _).mono ?_
  rintro e w1 ⟨E, rfl, hE, hE1, hb1⟩
  have hR1 : w1.heap[w.heap.size]? = some (.cells (List.replicate 32 (Value.int .u8 0)).toArray 31 (0, 0)) := (hb1.block w.heap.size (by simp)).trans (blk_new w _)
  have hg1 : w1.heap[g]? = some (.cells (hsCells h) 140 (0, 0)) := (hb1.block g (by simp; omega)).trans (blk_alloc Hg.out)
  have d0 : w1.cell? ⟨g, 0, none⟩ = some (.bool true) := blk_cell hg1 rfl
  have hb1' : Below w.heap.size w w1 := ((Below.refl _ _).alloc (Nat.le_refl _) _).trans (hb1.mono (by simp))
  have hE' : w.heap.size < E := by simp at hE; omega
  have HE1 := Lib.hid hE1; have HR1 := Lib.hid hR1; have Hg1 := Lib.hid hg1
  clear hE1 hR1 hg1 hb1 hE c0
  have I74 : Hid ((Tryd.prog.info? 140).map (·.size) = some 74) := by show _ = _; kernel_rfl
  have S74 : Hid ((hsCells h).size = 74) := hash_size Hok.out.st Hok.out.rest
  have I74' : Hid ((Tryd.prog.info? 140).map (·.size) = some (hsCells h).size) := by show _ = _; rw [S74.out]; exact I74.out
  have X74 : Hid ((hsCells h).extract 0 (0 + 74) = hsCells h) := by show _ = _; rw [← S74.out, Nat.zero_add, Array.extract_size]
  have O74 : Hid (∀ v ∈ (hsCells h).toList, v.oneCell' = true) := hash_oneCell _ _ _ _
  have R74 : Hid (putRow (hsCells hs0) 0 (hsCells h).toList = hsCells h) := by show _ = _; rw [putRow_all _ _ (by rw [Array.length_toList, S74.out]; rfl)]
  go_wp2_with (first
    | ((with_reducible refine at_load 20 ?_); go_must (have q1 := I74.out; have q2 := S74.out; refine wpList_load_agg rfl 140 (.tmp 19) rfl g 0 rfl 140 (hsCells h) 74 _ Hg1.out Tryd.underlying140 rfl q1 (by rw [q2]; decide) (hsCells h) X74.out ?_; clear q1 q2))
    | ((with_reducible refine at_store (.tmp 21) (.tmp 20) ?_); go_must (have q1 := I74'.out; have q2 := S74.out; refine wpList_store_agg (cells := hsCells h) rfl 140 (.tmp 21) (.tmp 20) rfl E 0 rfl rfl 140 (hsCells hs0) HE1.out q1 (by rw [q2]; decide) O74.out (hsCells h) R74.out ?_; intro w2 hu2; have e73 : w2.cell? ⟨E, 73, none⟩ = some (.int .u64 h.n) := blk_cell hu2.same (hash_n Hok.out.st Hok.out.rest); clear q1 q2)))
  have g2 := Lib.hid (hu2.blk Hg1.out (by omega)); have r2 := Lib.hid (hu2.blk HR1.out (by omega))
  have b2 : Below w.heap.size w w2 := hb1'.trans (hu2.below (by omega))
  have hE2 : E < w2.heap.size := blk_lt hu2.same
  have ea : (w2.alloc (.cells #[Value.int .u8 128] 5)).heap[E]? = some (.cells (hsCells h) 140 (0, 0)) := blk_alloc hu2.same
  refine (write1_any E h w2.heap.size 128 140 _ Hok.out.st Hok.out.rest Hok.out.isB (by decide) (by omega) (by simp) (blk_cell (blk_new w2 _) rfl) (by omega) ea).mono ?_
  rintro e w3 ⟨rfl, p3⟩
  have b3 : Below w.heap.size w w3 := (b2.alloc b2.size _).trans (put1_below p3 (by omega) (by simp; omega))
  have r3 : w3.heap[w.heap.size]? = some (.cells (List.replicate 32 (Value.int .u8 0)).toArray 31 (0, 0)) := (p3.other w.heap.size (by simp; omega) (by omega)).trans (blk_alloc r2.out)
  have e3 := p3.same
  have hs3 : w.heap.size ≤ w3.heap.size := b3.size
  have B3 := Lib.hid b3; have R3 := Lib.hid r3; have E3 := Lib.hid e3
  have hz := zerosOf_lt h.n
  clear b3 r3 e3 p3 ea b2 hu2 e73 d0 hb1' hE2
  go_wp2
  go_loopg [30] (zerosOf h.n) (fun gk a wr => ∃ j : Nat, j ≤ zerosOf h.n ∧ gk = zerosOf h.n - j ∧ wr.heap[E]? = some (.cells (hsCells (h2 h j)) 140 (0, 0)) ∧ wr.heap[w.heap.size]? = some (.cells (List.replicate 32 (Value.int .u8 0)).toArray 31 (0, 0)) ∧ Below w.heap.size w wr)
  case atStart => exact ⟨0, by omega, rfl, E3.out, R3.out, B3.out⟩
  case round =>
    obtain ⟨j, hj1, rfl, hEj, hRj, hbj⟩ := hrel
    have hnj := h2_n h j
    have hok2 := h2_ok Hok.out j
    have e73 : wr.cell? ⟨E, 73, none⟩ = some (.int .u64 ((h.n + 1 + j : Nat) : Int)) := by rw [← hnj]; exact blk_cell hEj (hash_n hok2.st hok2.rest)
    have Hnj := Lib.hid hnj; have Hok2 := Lib.hid hok2; have HEj := Lib.hid hEj; have HRj := Lib.hid hRj; have Hbj := Lib.hid hbj
    clear hnj hok2 hEj hRj hbj B3 R3 E3
    by_cases hlt1 : j < zerosOf h.n
    · have hne := zeros_ne h.n j hlt1
      go_wp2_with fail
      have hE2 : E < wr.heap.size := blk_lt HEj.out
      refine (write1_any E (h2 h j) wr.heap.size 0 140 _ Hok2.out.st Hok2.out.rest Hok2.out.isB (by decide) (by omega) (by simp) (blk_cell (blk_new wr _) rfl) (by rw [Hnj.out]; omega) (blk_alloc HEj.out)).mono ?_
      rintro e w4 ⟨rfl, p4⟩
      have b4 := Lib.hid ((Hbj.out.alloc Hbj.out.size _).trans (put1_below p4 (by omega) (by have := Hbj.out.size; simp; omega)))
      have r4 := Lib.hid ((p4.other w.heap.size (by simp; omega) (by omega)).trans (blk_alloc HRj.out))
      have e4 := Lib.hid p4.same
      clear p4 hne
      go_wp2
      go_roundg (zerosOf h.n - (j + 1))
      case rel => exact ⟨j + 1, by omega, rfl, by rw [h2_succ]; exact e4.out, r4.out, b4.out⟩
      case measure => omega
    · obtain rfl : j = zerosOf h.n := by omega
      have hne := zeros_eq h.n
      clear hj1 hlt1
      go_wp2
      clear hz
      go_loopg [5] 8 (fun gk i wr => ∃ k : Nat, k ≤ 8 ∧ gk = 8 - k ∧ i = .int .i64 (7 - (k : Int)) ∧ wr.heap[E]? = some (.cells (hsCells (h3 h k)) 140 (0, 0)) ∧ wr.heap[w.heap.size]? = some (.cells (List.replicate 32 (Value.int .u8 0)).toArray 31 (0, 0)) ∧ Below w.heap.size w wr)
      case atStart => exact ⟨0, by omega, rfl, rfl, HEj.out, HRj.out, Hbj.out⟩
      case round =>
        clear HEj HRj Hbj Hok2 Hnj e73 hne
        obtain ⟨k, hk, rfl, rfl, hEk, hRk, hbk⟩ := hrel
        have hnk := h3_n h k
        have hok3 := h3_ok Hok.out k
        have Hnk := Lib.hid hnk; have Hok3 := Lib.hid hok3; have HEk := Lib.hid hEk; have HRk := Lib.hid hRk; have Hbk := Lib.hid hbk
        clear hnk hok3 hEk hRk hbk
        by_cases hlt2 : k < 8
        · go_wp2_with fail
          have hE2 : E < wr.heap.size := blk_lt HEk.out
          refine (write1_any E (h3 h k) wr.heap.size (lenByte (h.n * 8) k) 140 _ Hok3.out.st Hok3.out.rest Hok3.out.isB (lenByte_range _ _) (by omega) (by simp) (blk_cell (blk_new wr _) rfl) (by rw [Hnk.out]; have := zerosOf_lt h.n; omega) (blk_alloc HEk.out)).mono ?_
          rintro e w4 ⟨rfl, p4⟩
          have b4 := Lib.hid ((Hbk.out.alloc Hbk.out.size _).trans (put1_below p4 (by omega) (by have := Hbk.out.size; simp; omega)))
          have r4 := Lib.hid ((p4.other w.heap.size (by simp; omega) (by omega)).trans (blk_alloc HRk.out))
          have e4 := Lib.hid p4.same
          clear p4
          go_wp2
          go_roundg (8 - (k + 1))
          case rel => exact ⟨k + 1, by omega, rfl, by go_num, by rw [h3_succ]; exact e4.out, r4.out, b4.out⟩
          case measure => omega
        · obtain rfl : k = 8 := by omega
          clear hlt2 hk
          have hst := Hok3.out.st
          have hE2 : E < wr.heap.size := blk_lt HEk.out
          have HD : Bx (digest h = outBytes (h3 h 8).st 32) := ⟨rfl⟩
          have HC : Hid (∀ i, i < 8 → wr.cell? ⟨E, 1 + i, none⟩ = some (.int .u32 ((h3 h 8).st.getD i 0))) := fun i hi => blk_cell HEk.out (hash_u32 i (by rw [hst]; exact hi))
          generalize (h3 h 8).st = st at *
          clear HEk Hnk Hok3 hst
          go_wp2
          have hO : (wr.alloc (.cells (ints .u8 (outBytes st 0)) 31)).heap[wr.heap.size]? = some (.cells (ints .u8 (outBytes st 0)) 31 (0, 0)) := blk_new wr _
          have HO := Lib.hid hO
          clear hO
          go_loopw [51] (fun i ws => ∃ j : Nat, j ≤ 32 ∧ i = .int .i64 j ∧ ws.heap[wr.heap.size]? = some (.cells (ints .u8 (outBytes st j)) 31 (0, 0)) ∧ Below wr.heap.size wr ws)
            (fun i _ => 32 - (intOf i).toNat)
          case atStart => exact ⟨0, by omega, rfl, HO.out, (Below.refl _ _).alloc (Nat.le_refl _) _⟩
          case round =>
            obtain ⟨j, hj, rfl, hOj, hbj⟩ := hrel
            by_cases hlt : j < 32
            · have hc := (hbj.cell (p := ⟨E, 1 + j / 4, none⟩) hE2).trans (HC.out (j / 4) (by omega))
              have ho := blk_int hOj j (by rw [outBytes_length]; exact hlt)
              have hf := blk_frozen j hOj
              have HOj := Lib.hid hOj
              clear hOj
              clear HE1 HR1 Hg1 I74 S74 I74' X74 O74 R74 g2 r2
              go_wp2
              go_roundw
              case rel => exact ⟨j + 1, by omega, by go_num, blk_set HOj.out j _, hbj.setCell (Nat.le_refl _) _⟩
              case measure => simp [intOf]; omega
            · obtain rfl : j = 32 := by omega
              have hR : _ = _ := (hbj.block w.heap.size (by omega)).trans HRk.out
              have hfb := Hbk.out.trans (hbj.mono Hbk.out.size)
              generalize hV : ints .u8 (outBytes st 32) = V at *
              have hsz : V.size = 32 := by rw [← hV, ints_size, outBytes_length]
              have ho := ints_oneCell .u8 (outBytes st 32)
              rw [hV] at ho
              have hsz' : (Tryd.prog.info? 31).map (·.size) = some V.size := by rw [hsz]; kernel_rfl
              have hV' := bx hV; have HS := bx hsz; have HS' := bx hsz'; have HO2 := bx ho; have HR2 := bx hR; have HO3 := bx hOj; have HF := bx hfb
              clear hV hsz hsz' ho hR hOj hfb HO HC hbj HRk Hbk
              go_wp2_with (first
                | ((with_reducible refine at_load 70 ?_); go_must (refine wpList_load_agg rfl 31 (.tmp 6) rfl _ 0 rfl 31 V 32 _ HO3.out Tryd.underlying31 rfl (by kernel_rfl) (by rw [HS.out]; decide) V (by rw [← HS.out, Nat.zero_add, Array.extract_size]) ?_))
                | ((with_reducible refine at_store (.tmp 2) (.tmp 70) ?_); go_must (have q1 := HS'.out; have q2 := HS.out; refine wpList_store_agg (cells := V) rfl 31 (.tmp 2) (.tmp 70) rfl w.heap.size 0 rfl rfl 31 _ HR2.out q1 (by rw [q2]; decide) HO2.out V (by rw [putRow_all _ _ (by rw [Array.length_toList, q2]; decide)]) ?_; intro w9 hu9; clear q1 q2)))
              refine bodyPost_ret (v := .agg V) (results_agg (cs := V) rfl _ _ w.heap.size 31 _ rfl hu9.same Tryd.underlying31 rfl HS'.out) rfl ⟨by rw [HD.out, hV'.out], ?_⟩
              exact HF.out.trans (hu9.below (Nat.le_refl _))
end Go.Proofs.YthnommoljikaiaaDoor
