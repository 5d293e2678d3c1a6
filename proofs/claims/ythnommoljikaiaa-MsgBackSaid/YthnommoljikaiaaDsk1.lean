/- Disks: what is where; the walks over none, may, call and lay. -/
import Derived.Test.YthnommoljikaiaaMap1
import Derived.Test.YthnommoljikaiaaAid3
import Derived.Test.YthnommoljikaiaaBuf1
import Derived.Laws.AppendOwn
set_option linter.unusedSimpArgs false
set_option linter.unusedVariables false
namespace Go.Proofs.Ythnommoljikaiaa
open Go.RowKit

/-- Blocks that lay there and are not in S are as they were. -/
structure Only (S : Nat → Prop) (w w' : World) : Prop where
  os : w'.os = w.os
  tape : w'.tape = w.tape
  output : w'.output = w.output
  size : w.heap.size ≤ w'.heap.size
  block : ∀ k, k < w.heap.size → ¬ S k → w'.heap[k]? = w.heap[k]?
theorem Only.refl (S : Nat → Prop) (w : World) : Only S w w := ⟨rfl, rfl, rfl, Nat.le_refl _, fun _ _ _ => rfl⟩
theorem Only.trans {S : Nat → Prop} {a b c : World} (h : Only S a b) (k : Only S b c) : Only S a c :=
  ⟨k.os.trans h.os, k.tape.trans h.tape, k.output.trans h.output, Nat.le_trans h.size k.size, fun i hi hn => (k.block i (Nat.lt_of_lt_of_le hi h.size) hn).trans (h.block i hi hn)⟩
theorem Only.mono {S T : Nat → Prop} {w w' : World} (h : Only S w w') (hs : ∀ k, S k → T k) : Only T w w' := ⟨h.os, h.tape, h.output, h.size, fun k hk hn => h.block k hk fun e => hn (hs k e)⟩
theorem Only.below {S : Nat → Prop} {w w' : World} (h : Only S w w') {B : Nat} (hB : B ≤ w.heap.size) (hS : ∀ k, S k → B ≤ k) : Below B w w' :=
  ⟨h.os, h.tape, h.output, h.size, fun k hk => h.block k (by omega) fun e => by have := hS k e; omega⟩
theorem only_of_below {S : Nat → Prop} {w w' : World} (h : Below w.heap.size w w') : Only S w w' := ⟨h.os, h.tape, h.output, h.size, fun k hk _ => h.block k hk⟩
theorem Only.alloc {S : Nat → Prop} {a w : World} (h : Only S a w) (o : Obj) : Only S a (w.alloc o) :=
  h.trans (only_of_below ((Below.refl _ _).alloc (Nat.le_refl _) o))
theorem Only.drew {S : Nat → Prop} {a w : World} (h : Only S a w) : Only S a w.drew := ⟨h.os, h.tape, h.output, h.size, h.block⟩
theorem Only.drewN {S : Nat → Prop} {a w : World} (h : Only S a w) (n : Nat) : Only S a (w.drewN n) := ⟨h.os, h.tape, h.output, h.size, h.block⟩
theorem Only.setCell {S : Nat → Prop} {a w : World} (h : Only S a w) {p : Addr} (hp : S p.block) (u : Value) : Only S a (w.setCell p u) :=
  h.trans ⟨rfl, rfl, rfl, by simp [World.setCell], fun k hk hn => Below.heap_setCell _ _ _ _ (fun e => hn (e ▸ hp))⟩
theorem Only.upd {S : Nat → Prop} {a w w' : World} {g : Nat} {o : Obj} (h : Only S a w) (hu : Upd w w' g o) (hg : S g) : Only S a w' :=
  h.trans ⟨hu.os, hu.tape, hu.output, by rw [hu.size]; exact Nat.le_refl _, fun k hk hn => hu.other k (fun e => hn (e ▸ hg))⟩
/-- An upd of a block that was made since. -/
theorem Only.updNew {S : Nat → Prop} {a w w' : World} {g : Nat} {o : Obj} (h : Only S a w) (hu : Upd w w' g o) (hg : a.heap.size ≤ g) : Only S a w' :=
  ⟨hu.os.trans h.os, hu.tape.trans h.tape, hu.output.trans h.output, by rw [hu.size]; exact h.size, fun k hk hn => (hu.other k (by omega)).trans (h.block k hk hn)⟩
theorem Only.grown {S : Nat → Prop} {a w w' : World} {row : Option Nat} (h : Only S a w) (hg : w.grownBy w' row) (hr : ∀ k, row = some k → S k) : Only S a w' :=
  h.trans ⟨hg.os, hg.tape, hg.output, hg.size, fun k hk hn => hg.block k hk (fun e => hn (hr k e.symm))⟩

def zeros256 : List Int := List.replicate 256 0
/-- What a disk is. -/
structure DSt where
  n : Int
  f : Int → List Int
  und : List (Int × List Int)
  left : Int
  down : Bool
def undCells (u : List (Int × List Int)) : List Value := u.flatMap fun x => .int .i64 x.1 :: x.2.map (Value.int .u8)
def SecOk (s : List Int) : Prop := s.length = 256 ∧ IsB s
theorem zeros_ok : SecOk zeros256 := ⟨by rw [zeros256, List.length_replicate], isB_zeros 256⟩
theorem undCells_length {u : List (Int × List Int)} (h : ∀ x ∈ u, SecOk x.2) : (undCells u).length = u.length * 257 := by
  induction u with
  | nil => rfl
  | cons x u ih =>
    have h1 := ih fun y hy => h y (by simp [hy])
    have h2 := (h x (by simp)).1
    rw [undCells, List.flatMap_cons, List.length_append, List.length_cons, List.length_map, h2]
    change 256 + 1 + (undCells u).length = _
    rw [h1, List.length_cons]
    omega
theorem undCells_append (u v : List (Int × List Int)) : undCells (u ++ v) = undCells u ++ undCells v := by simp [undCells]
def dCells (n : Int) (m uv : Value) (left : Int) (down : Bool) : Array Value := #[.int .i64 n, m, uv, .int .i64 left, .bool down]
/-- A disk in block D, its parts in blocks of S. -/
structure DskAt (w : World) (S : Nat → Prop) (D mb : Nat) (uv : Value) (st : DSt) : Prop where
  blk : w.heap[D]? = some (.cells (dCells st.n (.map (some mb)) uv st.left st.down) 63 (0, 0))
  map : ∃ g, MapI .i64 w mb g ∧ ∀ k, (g k = none ∧ st.f k = zeros256) ∨ g k = some (.agg (ints .u8 (st.f k)))
  und : w.ownsRow 0 142 257 uv st.und.length (undCells st.und)
  inD : S D
  inM : S mb
  inU : ∀ k, uv.ownBlock = some k → S k
  secs : ∀ k, SecOk (st.f k)
  unds : ∀ x ∈ st.und, SecOk x.2
  lo : -1 ≤ st.left
  hi : st.left ≤ 9223372036854775807
  n1 : 1 ≤ st.n
  n2 : st.n ≤ 2048
theorem ownsRow_same {w w' : World} {base : Nat} {e : TypeId} {size : Nat} {v : Value} {n : Nat} {xs : List Value} (h : w.ownsRow base e size v n xs) (hs : ∀ k, v.ownBlock = some k → w'.heap[k]? = w.heap[k]?) : w'.ownsRow base e size v n xs := by
  obtain ⟨h1, h2 | ⟨g, cap, cur, e, hg, hh, h2⟩⟩ := h
  · exact ⟨h1, .inl h2⟩
  · exact ⟨h1, .inr ⟨g, cap, cur, e, hg, (hs g (by rw [e]; rfl)).trans hh, h2⟩⟩
theorem ownsRow_lt {w : World} {base : Nat} {e : TypeId} {size : Nat} {v : Value} {n : Nat} {xs : List Value} (h : w.ownsRow base e size v n xs) : ∀ k, v.ownBlock = some k → k < w.heap.size := by
  obtain ⟨h1, h2 | ⟨g, cap, cur, e, hg, hh, h2⟩⟩ := h
  · intro k hk; rw [h2.1] at hk; cases hk
  · intro k hk; rw [e] at hk; cases hk; exact blk_lt hh
/-- Its blocks are three. -/
theorem DskAt.ne_map {w : World} {S : Nat → Prop} {D mb : Nat} {uv : Value} {st : DSt} (h : DskAt w S D mb uv st) : mb ≠ D := fun e => by
  obtain ⟨g, ⟨es, c, hm, _⟩, _⟩ := h.map
  rw [e, h.blk] at hm
  cases hm
theorem DskAt.ne_und {w : World} {S : Nat → Prop} {D mb : Nat} {uv : Value} {st : DSt} (h : DskAt w S D mb uv st) : ∀ k, uv.ownBlock = some k → k ≠ D ∧ k ≠ mb := by
  obtain ⟨_, h2 | ⟨g, cap, cur, e, hg, hh, h2⟩⟩ := h.und
  · intro k hk; rw [h2.1] at hk; cases hk
  · intro k hk
    rw [e] at hk
    cases hk
    refine ⟨fun e => ?_, fun e => ?_⟩
    · change g = D at e
      rw [e, h.blk] at hh; simp only [Option.some.injEq, Obj.cells.injEq] at hh; exact absurd hh.2.1 (by decide)
    · obtain ⟨g', ⟨es, c, hm, _⟩, _⟩ := h.map
      change g = mb at e
      rw [e] at hh
      rw [hh] at hm
      cases hm
/-- As it was where its blocks are. -/
theorem DskAt.same {w w' : World} {S : Nat → Prop} {D mb : Nat} {uv : Value} {st : DSt} (h : DskAt w S D mb uv st) (hs : ∀ k, k = D ∨ k = mb ∨ uv.ownBlock = some k → w'.heap[k]? = w.heap[k]?) : DskAt w' S D mb uv st := by
  obtain ⟨g, hm, hg⟩ := h.map
  exact ⟨(hs D (.inl rfl)).trans h.blk, ⟨g, hm.same (hs mb (.inr (.inl rfl))), hg⟩, ownsRow_same h.und (fun k hk => hs k (.inr (.inr hk))), h.inD, h.inM, h.inU, h.secs, h.unds, h.lo, h.hi, h.n1, h.n2⟩
theorem DskAt.lt {w : World} {S : Nat → Prop} {D mb : Nat} {uv : Value} {st : DSt} (h : DskAt w S D mb uv st) : ∀ k, k = D ∨ k = mb ∨ uv.ownBlock = some k → k < w.heap.size := by
  rintro k (rfl | rfl | hk)
  · exact blk_lt h.blk
  · obtain ⟨g, hm, _⟩ := h.map; exact hm.lt
  · exact ownsRow_lt h.und k hk
theorem DskAt.kept {w w' : World} {S : Nat → Prop} {D mb : Nat} {uv : Value} {st : DSt} (h : DskAt w S D mb uv st) (hb : Below w.heap.size w w') : DskAt w' S D mb uv st :=
  h.same fun k hk => hb.block k (h.lt k hk)
theorem DskAt.mono {w : World} {S T : Nat → Prop} {D mb : Nat} {uv : Value} {st : DSt} (h : DskAt w S D mb uv st) (hs : ∀ k, S k → T k) : DskAt w T D mb uv st :=
  ⟨h.blk, h.map, h.und, hs _ h.inD, hs _ h.inM, fun k hk => hs _ (h.inU k hk), h.secs, h.unds, h.lo, h.hi, h.n1, h.n2⟩
/-- Its counter and its being down are written. -/
theorem DskAt.upd {w w' : World} {S : Nat → Prop} {D mb : Nat} {uv : Value} {st : DSt} {left : Int} {down : Bool} (h : DskAt w S D mb uv st) (hu : Upd w w' D (.cells (dCells st.n (.map (some mb)) uv left down) 63 (0, 0)))
    (hlo : -1 ≤ left) (hhi : left ≤ 9223372036854775807) : DskAt w' S D mb uv ⟨st.n, st.f, st.und, left, down⟩ := by
  obtain ⟨g, hm, hg⟩ := h.map
  exact ⟨hu.same, ⟨g, hm.same (hu.other mb h.ne_map), hg⟩, ownsRow_same h.und (fun k hk => hu.other k (h.ne_und k hk).1), h.inD, h.inM, h.inU, h.secs, h.unds, hlo, hhi, h.n1, h.n2⟩

set_option maxRecDepth 100000 in
theorem none_any (w : World) (D : Nat) (n : Int) (m uv : Value) (left : Int) (down : Bool) (h : w.heap[D]? = some (.cells (dCells n m uv left down) 63 (0, 0))) (hn : 1 ≤ n) :
    Calls Try.prog 69 #[.pointer (some ⟨D, 0, none⟩)] w fun e w' => e = .returned (.bool false) ∧ w = w' := by
  have c0 : w.cell? ⟨D, 0, none⟩ = some (.int .i64 n) := blk_cell h rfl
  have hn0 : (n == 0) = false := by simp; omega
  clear h
  go_enter Try.func69, Try.ntmps69
  go_wp2_with fail
  go_ret
  exact ⟨rfl, rfl⟩
set_option maxRecDepth 100000 in
theorem none_nil (w : World) : Calls Try.prog 69 #[.pointer none] w fun e w' => e = .returned (.bool true) ∧ w = w' := by
  go_enter Try.func69, Try.ntmps69
  go_wp2_with fail
  go_ret
  exact ⟨rfl, rfl⟩
/-- What is wrong with a call that names a sector. -/
def mayOf (st : DSt) (i : Int) : Int := if st.down then 17 else if i < 0 ∨ st.n ≤ i then 2 else 0
set_option maxRecDepth 100000 in
set_option maxHeartbeats 400000 in
theorem may_any (w : World) (D : Nat) (st : DSt) (m uv : Value) (i : Int) (h : w.heap[D]? = some (.cells (dCells st.n m uv st.left st.down) 63 (0, 0))) (hn : 1 ≤ st.n) :
    Calls Try.prog 66 #[.pointer (some ⟨D, 0, none⟩), .int .i64 i] w fun e w' => e = .returned (.int .i64 (mayOf st i)) ∧ w = w' := by
  obtain ⟨n, f, und, left, down⟩ := st
  dsimp only at h hn
  have c0 : w.cell? ⟨D, 0, none⟩ = some (.int .i64 n) := blk_cell h rfl
  have c4 : w.cell? ⟨D, 4, none⟩ = some (.bool down) := blk_cell h rfl
  have HN := bx (none_any w D n m uv left down h hn)
  clear h
  cases down with
  | true =>
    have HM : Bx (mayOf ⟨n, f, und, left, true⟩ i = 17) := ⟨rfl⟩
    go_enter Try.func66, Try.ntmps66
    go_wp2_with fail
    refine HN.out.mono ?_
    rintro e w' ⟨rfl, rfl⟩
    go_wp2_with fail
    go_ret
    exact ⟨by rw [HM.out]; rfl, rfl⟩
  | false =>
    by_cases hi : i < 0
    · have HM : Bx (mayOf ⟨n, f, und, left, false⟩ i = 2) := ⟨by rw [mayOf, if_neg (by simp), if_pos (.inl hi)]⟩
      go_enter Try.func66, Try.ntmps66
      go_wp2_with fail
      refine HN.out.mono ?_
      rintro e w' ⟨rfl, rfl⟩
      go_wp2_with fail
      go_ret
      exact ⟨by rw [HM.out]; rfl, rfl⟩
    · by_cases hi2 : n ≤ i
      · have HM : Bx (mayOf ⟨n, f, und, left, false⟩ i = 2) := ⟨by rw [mayOf, if_neg (by simp), if_pos (.inr hi2)]⟩
        go_enter Try.func66, Try.ntmps66
        go_wp2_with fail
        refine HN.out.mono ?_
        rintro e w' ⟨rfl, rfl⟩
        go_wp2_with fail
        go_ret
        exact ⟨by rw [HM.out]; rfl, rfl⟩
      · have HM : Bx (mayOf ⟨n, f, und, left, false⟩ i = 0) := ⟨by rw [mayOf, if_neg (by simp), if_neg (by dsimp only; omega)]⟩
        go_enter Try.func66, Try.ntmps66
        go_wp2_with fail
        refine HN.out.mono ?_
        rintro e w' ⟨rfl, rfl⟩
        go_wp2_with fail
        go_ret
        exact ⟨by rw [HM.out]; rfl, rfl⟩
/-- A call is counted: what is left, whether it is down, what is told. -/
def callOf (left : Int) (down : Bool) : Int × Bool × Int := if left = 0 then (-1, true, 17) else if 0 < left then (left - 1, down, 0) else (left, down, 0)
theorem upd_cell {w : World} {b j : Nat} {c : Array Value} {T : TypeId} (h : w.heap[b]? = some (.cells c T (0, 0))) (v : Value) : Upd w (w.setCell ⟨b, j, none⟩ v) b (.cells (c.setIfInBounds j v) T (0, 0)) :=
  ⟨rfl, rfl, rfl, by simp [World.setCell], heap_setCell_same w b j c T _ h, fun k hk => Below.heap_setCell _ _ _ _ hk⟩
theorem Upd.trans {w w1 w2 : World} {g : Nat} {o o' : Obj} (h : Upd w w1 g o) (k : Upd w1 w2 g o') : Upd w w2 g o' :=
  ⟨k.os.trans h.os, k.tape.trans h.tape, k.output.trans h.output, k.size.trans h.size, k.same, fun i hi => (k.other i hi).trans (h.other i hi)⟩
set_option maxRecDepth 100000 in
set_option maxHeartbeats 400000 in
theorem call_any (w : World) (D : Nat) (n : Int) (m uv : Value) (left : Int) (down : Bool) (h : w.heap[D]? = some (.cells (dCells n m uv left down) 63 (0, 0))) (hlo : -1 ≤ left) (hhi : left ≤ 9223372036854775807) :
    Calls Try.prog 67 #[.pointer (some ⟨D, 0, none⟩)] w fun e w' => e = .returned (.int .i64 (callOf left down).2.2) ∧ Upd w w' D (.cells (dCells n m uv (callOf left down).1 (callOf left down).2.1) 63 (0, 0)) := by
  have c3 : w.cell? ⟨D, 3, none⟩ = some (.int .i64 left) := blk_cell h rfl
  have c4 : w.cell? ⟨D, 4, none⟩ = some (.bool down) := blk_cell h rfl
  have f3 : w.frozen? ⟨D, 3, none⟩ = false := blk_frozen 3 h
  have f4 : w.frozen? ⟨D, 4, none⟩ = false := blk_frozen 4 h
  have H := bx h
  clear h
  by_cases h0 : left = 0
  · subst h0
    go_enter Try.func67, Try.ntmps67
    go_wp2_with fail
    go_ret
    exact ⟨rfl, (upd_cell H.out (j := 4) (.bool true)).trans (upd_cell (upd_cell H.out (j := 4) (.bool true)).same (j := 3) (.int .i64 (-1)))⟩
  · have h0' : (left == 0) = false := by simp [h0]
    by_cases h1 : 0 < left
    · have HC : Bx (callOf left down = (left - 1, down, 0)) := ⟨by rw [callOf, if_neg h0, if_pos h1]⟩
      go_enter Try.func67, Try.ntmps67
      go_wp2_with fail
      go_ret
      exact ⟨by rw [HC.out]; rfl, by rw [HC.out]; exact upd_cell H.out (j := 3) (.int .i64 (left - 1))⟩
    · have HC : Bx (callOf left down = (left, down, 0)) := ⟨by rw [callOf, if_neg h0, if_neg h1]⟩
      have h1' : ¬ (0 : Int) < left := h1
      go_enter Try.func67, Try.ntmps67
      go_wp2_with fail
      go_ret
      exact ⟨by rw [HC.out]; rfl, by rw [HC.out]; exact ⟨rfl, rfl, rfl, rfl, H.out, fun _ _ => rfl⟩⟩
end Go.Proofs.Ythnommoljikaiaa
