/- A disk that nobody made: nil, or one of zeros: its calls tell so and change nothing. And Arm, Down and Sectors of one that was made. -/
import Derived.Test.YthnommoljikaiaaDsk11
set_option linter.unusedSimpArgs false
set_option linter.unusedVariables false
namespace Go.Proofs.Ythnommoljikaiaa
open Go.RowKit

/-- No disk: nil, or one of zeros. -/
def NoDisk (w : World) (p : Value) : Prop := p = .pointer none ∨ ∃ Z, p = .pointer (some ⟨Z, 0, none⟩) ∧ w.cell? ⟨Z, 0, none⟩ = some (.int .i64 0)
set_option maxRecDepth 100000 in
theorem none_dead (w : World) (p : Value) (h : NoDisk w p) : Calls Try.prog 69 #[p] w fun e w' => e = .returned (.bool true) ∧ w = w' := by
  rcases h with rfl | ⟨Z, rfl, hz⟩
  · exact none_nil w
  · go_enter Try.func69, Try.ntmps69
    go_wp2_with fail
    go_ret
    exact ⟨rfl, rfl⟩
set_option maxRecDepth 100000 in
theorem may_dead (w : World) (p : Value) (i : Int) (h : NoDisk w p) : Calls Try.prog 66 #[p, .int .i64 i] w fun e w' => e = .returned (.int .i64 1) ∧ w = w' := by
  have HN := bx (none_dead w p h)
  clear h
  go_enter Try.func66, Try.ntmps66
  go_wp2_with fail
  refine HN.out.mono ?_
  rintro e w' ⟨rfl, rfl⟩
  go_wp2_with fail
  go_ret
  exact ⟨rfl, rfl⟩
set_option maxRecDepth 100000 in
theorem arm_dead (w : World) (p : Value) (n : Int) (h : NoDisk w p) : Calls Try.prog 28 #[p, .int .i64 n] w fun e w' => e = .returned (.tuple #[]) ∧ w = w' := by
  have HN := bx (none_dead w p h)
  clear h
  go_enter Try.func28, Try.ntmps28
  go_wp2_with fail
  refine HN.out.mono ?_
  rintro e w' ⟨rfl, rfl⟩
  go_wp2_with fail
  go_end0
  exact ⟨rfl, rfl⟩
set_option maxRecDepth 100000 in
theorem fall_dead (w : World) (p : Value) (l : Value) (h : NoDisk w p) : Calls Try.prog 23 #[p, l] w fun e w' => e = .returned (.tuple #[]) ∧ w = w' := by
  have HN := bx (none_dead w p h)
  clear h
  go_enter Try.func23, Try.ntmps23
  go_wp2_with fail
  refine HN.out.mono ?_
  rintro e w' ⟨rfl, rfl⟩
  go_wp2_with fail
  refine bodyPost_ret (results_none rfl _ _ _) rfl ?_
  exact ⟨rfl, rfl⟩
set_option maxRecDepth 100000 in
theorem read_dead (w : World) (p : Value) (i : Int) (h : NoDisk w p) : Calls Try.prog 22 #[p, .int .i64 i] w fun e w' => e = .returned (.tuple #[.slice none 0 0, .int .i64 1]) ∧ w = w' := by
  have HN := bx (may_dead w p i h)
  clear h
  go_enter Try.func22, Try.ntmps22
  go_wp2_with fail
  refine HN.out.mono ?_
  rintro e w' ⟨rfl, rfl⟩
  go_wp2_with fail
  go_ret2
  exact ⟨rfl, rfl⟩
set_option maxRecDepth 100000 in
theorem safe_dead (w : World) (p : Value) (i : Int) (h : NoDisk w p) : Calls Try.prog 21 #[p, .int .i64 i] w fun e w' => e = .returned (.tuple #[.slice none 0 0, .int .i64 1]) ∧ w = w' := by
  have HN := bx (none_dead w p h)
  clear h
  go_enter Try.func21, Try.ntmps21
  go_wp2_with fail
  refine HN.out.mono ?_
  rintro e w' ⟨rfl, rfl⟩
  go_wp2_with fail
  go_ret2
  exact ⟨rfl, rfl⟩
set_option maxRecDepth 100000 in
theorem write_dead (w : World) (p : Value) (i : Int) (v : Value) (h : NoDisk w p) : Calls Try.prog 19 #[p, .int .i64 i, v] w fun e w' => e = .returned (.int .i64 1) ∧ w = w' := by
  have HN := bx (may_dead w p i h)
  clear h
  go_enter Try.func19, Try.ntmps19
  go_wp2_with fail
  refine HN.out.mono ?_
  rintro e w' ⟨rfl, rfl⟩
  go_wp2_with fail
  go_ret
  exact ⟨rfl, rfl⟩
set_option maxRecDepth 100000 in
theorem sync_dead (w : World) (p : Value) (h : NoDisk w p) : Calls Try.prog 20 #[p] w fun e w' => e = .returned (.int .i64 1) ∧ w = w' := by
  have HN := bx (may_dead w p 0 h)
  clear h
  go_enter Try.func20, Try.ntmps20
  go_wp2_with fail
  refine HN.out.mono ?_
  rintro e w' ⟨rfl, rfl⟩
  go_wp2_with fail
  go_ret
  exact ⟨rfl, rfl⟩
set_option maxRecDepth 100000 in
theorem down_dead (w : World) (p : Value) (h : NoDisk w p) : Calls Try.prog 33 #[p] w fun e w' => e = .returned (.bool false) ∧ w = w' := by
  have HN := bx (none_dead w p h)
  clear h
  go_enter Try.func33, Try.ntmps33
  go_wp2_with fail
  refine HN.out.mono ?_
  rintro e w' ⟨rfl, rfl⟩
  go_wp2_with fail
  go_ret
  exact ⟨rfl, rfl⟩
set_option maxRecDepth 100000 in
theorem sectors_dead (w : World) (p : Value) (h : NoDisk w p) : Calls Try.prog 34 #[p] w fun e w' => e = .returned (.int .i64 0) ∧ w = w' := by
  have HN := bx (none_dead w p h)
  clear h
  go_enter Try.func34, Try.ntmps34
  go_wp2_with fail
  refine HN.out.mono ?_
  rintro e w' ⟨rfl, rfl⟩
  go_wp2_with fail
  go_ret
  exact ⟨rfl, rfl⟩
set_option maxRecDepth 100000 in
theorem under_dead (w : World) (p : Value) (h : NoDisk w p) : Calls Try.prog 32 #[p] w fun e w' => e = .returned (.slice none 0 0) ∧ w = w' := by
  have HN := bx (none_dead w p h)
  clear h
  go_enter Try.func32, Try.ntmps32
  go_wp2_with fail
  refine HN.out.mono ?_
  rintro e w' ⟨rfl, rfl⟩
  go_wp2_with fail
  go_ret
  exact ⟨rfl, rfl⟩
set_option maxRecDepth 100000 in
theorem clone_dead (w : World) (p : Value) (h : NoDisk w p) : Calls Try.prog 35 #[p] w fun e w' => e = .returned (.pointer none) ∧ w = w' := by
  have HN := bx (none_dead w p h)
  clear h
  go_enter Try.func35, Try.ntmps35
  go_wp2_with fail
  refine HN.out.mono ?_
  rintro e w' ⟨rfl, rfl⟩
  go_wp2_with fail
  go_ret
  exact ⟨rfl, rfl⟩

/-- A disk that is armed. -/
def armOf (st : DSt) (n : Int) : DSt := { st with left := max n (-1) }
set_option maxRecDepth 100000 in
theorem arm_any (w : World) (S : Nat → Prop) (D : Nat) (st : DSt) (n : Int) (h : DskIs w S D st) (hn : n ≤ 9223372036854775807) :
    Calls Try.prog 28 #[.pointer (some ⟨D, 0, none⟩), .int .i64 n] w fun e w' => e = .returned (.tuple #[]) ∧ DskIs w' S D (armOf st n) ∧ Only S w w' := by
  obtain ⟨mb, uv, hd⟩ := h
  have HN := bx (none_any w D st.n (.map (some mb)) uv st.left st.down hd.blk hd.n1)
  have HD := bx hd
  have f3 : w.frozen? ⟨D, 3, none⟩ = false := blk_frozen 3 hd.blk
  have e3 : w.cell? ⟨D, 3, none⟩ = some (.int .i64 st.left) := blk_cell hd.blk rfl
  have HB : Bx (-1 ≤ max n (-1) ∧ max n (-1) ≤ 9223372036854775807) := ⟨by omega⟩
  have HA : Bx (armOf st n = { st with left := max n (-1) }) := ⟨rfl⟩
  generalize max n (-1) = m at *
  clear hd
  go_enter Try.func28, Try.ntmps28
  go_wp2_with fail
  refine HN.out.mono ?_
  rintro e w' ⟨rfl, rfl⟩
  go_wp2_with fail
  refine bodyPost_end (results_none rfl _ _ _) rfl ?_
  have hu := upd_cell HD.out.blk (j := 3) (.int .i64 (max n (-1)))
  refine ⟨rfl, ⟨mb, uv, ?_⟩, (Only.refl S w).upd hu HD.out.inD⟩
  exact HD.out.upd (left := max n (-1)) (down := st.down) hu (by omega) (by omega)
set_option maxRecDepth 100000 in
theorem down_any (w : World) (S : Nat → Prop) (D : Nat) (st : DSt) (h : DskIs w S D st) :
    Calls Try.prog 33 #[.pointer (some ⟨D, 0, none⟩)] w fun e w' => e = .returned (.bool st.down) ∧ w = w' := by
  obtain ⟨mb, uv, hd⟩ := h
  have HN := bx (none_any w D st.n (.map (some mb)) uv st.left st.down hd.blk hd.n1)
  have e4 : w.cell? ⟨D, 4, none⟩ = some (.bool st.down) := blk_cell hd.blk rfl
  clear hd
  go_enter Try.func33, Try.ntmps33
  go_wp2_with fail
  refine HN.out.mono ?_
  rintro e w' ⟨rfl, rfl⟩
  go_wp2_with fail
  go_ret
  exact ⟨rfl, rfl⟩
set_option maxRecDepth 100000 in
theorem sectors_any (w : World) (S : Nat → Prop) (D : Nat) (st : DSt) (h : DskIs w S D st) :
    Calls Try.prog 34 #[.pointer (some ⟨D, 0, none⟩)] w fun e w' => e = .returned (.int .i64 st.n) ∧ w = w' := by
  obtain ⟨mb, uv, hd⟩ := h
  have HN := bx (none_any w D st.n (.map (some mb)) uv st.left st.down hd.blk hd.n1)
  have e0 : w.cell? ⟨D, 0, none⟩ = some (.int .i64 st.n) := blk_cell hd.blk rfl
  clear hd
  go_enter Try.func34, Try.ntmps34
  go_wp2_with fail
  refine HN.out.mono ?_
  rintro e w' ⟨rfl, rfl⟩
  go_wp2_with fail
  go_ret
  exact ⟨rfl, rfl⟩
end Go.Proofs.Ythnommoljikaiaa
