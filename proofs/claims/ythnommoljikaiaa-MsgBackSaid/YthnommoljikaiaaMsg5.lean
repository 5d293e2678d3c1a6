/- Messages: what is read (plain); slices of names of one's own. -/
import Derived.Test.YthnommoljikaiaaMsg4
import Derived.Laws.OwnMore
set_option linter.unusedSimpArgs false
set_option linter.unusedVariables false
namespace Go.Proofs.Ythnommoljikaiaa
open Go.RowKit

/-- A slice of names that lies in a block of one's own (from 'base' on), as bytes. -/
def OwN (w : World) (base : Nat) (v : Value) (n : Nat) (flat : List Int) : Prop := w.ownsRow base 113 16 v n (flat.map (Value.int .u8))
theorem infoN : (Try.prog.info? 113).map (fun i => (i.zero, i.size, i.bytes)) = some (some (.agg (ints .u8 zero16)), 16, 16) := by kernel_rfl
theorem OwN.kept {w w' : World} {base n : Nat} {v : Value} {flat : List Int} (h : OwN w base v n flat) (hb : Below w.heap.size w w') : OwN w' base v n flat := by
  obtain ⟨h1, h2 | ⟨g, cap, cur, e, hg, hh, h2⟩⟩ := h
  · exact ⟨h1, .inl h2⟩
  · exact ⟨h1, .inr ⟨g, cap, cur, e, hg, (hb.block g (blk_lt hh)).trans hh, h2⟩⟩
theorem OwN.only {w w' : World} {base n R : Nat} {v : Value} {flat : List Int} (h : OwN w base v n flat) (ho : OnlyR R w w') (hR : R < base) : OwN w' base v n flat := by
  obtain ⟨h1, h2 | ⟨g, cap, cur, e, hg, hh, h2⟩⟩ := h
  · exact ⟨h1, .inl h2⟩
  · exact ⟨h1, .inr ⟨g, cap, cur, e, hg, (ho.block g (blk_lt hh) (by omega)).trans hh, h2⟩⟩
theorem OwN.upd {w w' : World} {base n g0 : Nat} {o : Obj} {v : Value} {flat : List Int} (h : OwN w base v n flat) (hu : Upd w w' g0 o) (hg0 : g0 < base) : OwN w' base v n flat := by
  obtain ⟨h1, h2 | ⟨g, cap, cur, e, hg, hh, h2⟩⟩ := h
  · exact ⟨h1, .inl h2⟩
  · exact ⟨h1, .inr ⟨g, cap, cur, e, hg, hu.blk hh (by omega), h2⟩⟩
theorem OwN.base_le {w : World} {b b' n : Nat} {v : Value} {flat : List Int} (h : OwN w b v n flat) (hb : b' ≤ b) : OwN w b' v n flat := by
  obtain ⟨h1, h2 | ⟨g, cap, cur, e, hg, h2⟩⟩ := h
  · exact ⟨h1, .inl h2⟩
  · exact ⟨h1, .inr ⟨g, cap, cur, e, by omega, h2⟩⟩
theorem OwN.alloc {w : World} {base n : Nat} {v : Value} {flat : List Int} (h : OwN w base v n flat) (o : Obj) : OwN (w.alloc o) base v n flat := World.ownsRow.alloc h o
theorem OwN.nil (w : World) (base : Nat) : OwN w base (.slice none 0 0) 0 [] := World.ownsRow_nil _ _ _ _
theorem OwN.lt {w : World} {base n : Nat} {v : Value} {flat : List Int} (h : OwN w base v n flat) : ∀ k, v.ownBlock = some k → base ≤ k ∧ k < w.heap.size := World.ownsRow.lt h
theorem OwN.len {w : World} {base n : Nat} {v : Value} {flat : List Int} (h : OwN w base v n flat) : flat.length = 16 * n := by
  have := h.1
  rw [List.length_map] at this
  omega
theorem OwN.rd {w : World} {base n : Nat} {v : Value} {flat : List Int} (h : OwN w base v n flat) : ∃ A cap, v = .slice A n cap ∧ RdB w A (16 * n) flat ∧ (A = none → cap = 0) := by
  have hl := h.len
  obtain ⟨h1, ⟨rfl, h0⟩ | ⟨g, cap, cur, rfl, hb, hg, hn, hm, hs, htk⟩⟩ := h
  · exact ⟨none, 0, by rw [h0], ⟨hl, fun hn => absurd hn (by omega)⟩, fun _ => rfl⟩
  · refine ⟨some ⟨g, 0, none⟩, cap, rfl, ⟨hl, fun hn0 => ⟨g, 0, rfl, blk_lt hg, fun j hj => ?_⟩⟩, fun h => (by cases h)⟩
    refine blk_cell hg ?_
    have e : (cur.toList.take (n * 16))[j]? = (flat.map (Value.int .u8))[j]? := by rw [htk]
    rw [List.getElem?_take_of_lt (by omega)] at e
    rw [Nat.zero_add]
    rw [Array.getElem?_toList] at e
    rw [e]
    simp [List.getElem?_eq_getElem (show j < flat.length by omega), List.getD_eq_getElem?_getD]
/-- 'append(s, x)' of one name. -/
theorem wpList_app1N {w : World} {ops : Array Oper} {rest : List Oper} {o : Oper} {a : Act} {Q : Exit → Act → World → Prop} (hgd : o.guard = none) (s x : Operand)
    (ho : o.op = .call { callee := .builtin .append, args := #[s, x], argTypes := #[114, 114] })
    (base : Nat) (v : Value) (n : Nat) (flat : List Int) (hs : a.eval s = v) (hown : OwN w base v n flat) (b c : Nat) (nm : List Int) (hx : a.eval x = .slice (some ⟨b, 0, none⟩) 1 c) (hc : w.heap[b]? = some (.cells (ints .u8 nm) 113 (0, 0)))
    (hnm : nm.length = 16) (hlen : n + 1 ≤ 4398046511104) (hbase : base ≤ w.heap.size)
    (h : ∀ v' w', OwN w' base v' (n + 1) (flat ++ nm) → w.grownBy w' v.ownBlock → wpList Try.prog ops Q rest (a.put o.dst v') w') : wpList Try.prog ops Q (o :: rest) a w := by
  obtain ⟨i0, hi, hz0, hz1, hz2⟩ := info_parts infoN
  refine wpList_append_own w hgd s x _ ho base 113 i0 (.agg (ints .u8 zero16)) 16 16 Try.underlying114 hi hz0 hz1 hz2 rfl (by decide) v n _ hs hown ⟨b, 0, none⟩ 1 c (nm.map (Value.int .u8)) hx (by rw [List.length_map, hnm]) ?_ (oneCell_map_int _ _) ?_ ?_ hbase ?_
  · intro j u hj
    rw [Addr.add_mid, Nat.zero_add]
    refine blk_cell hc ?_
    rw [← hj, ints, List.getElem?_toArray]
  · simp only [maxLen]; omega
  · omega
  · intro v' w' h1 h2 _
    refine h v' w' ?_ h2
    show World.ownsRow _ _ _ _ _ _ _
    rw [List.map_append]
    exact h1
theorem OwN.below {w w' : World} {base B n : Nat} {v : Value} {flat : List Int} (h : OwN w base v n flat) (hg : w.grownBy w' v.ownBlock) {a : World} (ha : Below B a w) (hB : B ≤ base) (hs : B ≤ w.heap.size) : Below B a w' :=
  ha.grown hg hs fun k hk => by have := (h.lt k hk).1; omega
theorem RdrL.grown {lo : Nat} {w w' : World} {R base n : Nat} {bs : List Int} {bad : Int} {v : Value} {flat : List Int} (h : RdrL lo w R bs bad) (ho : OwN w base v n flat) (hg : w.grownBy w' v.ownBlock) (hR : R < base) : RdrL lo w' R bs bad := by
  obtain ⟨A, c, h1, h2, h3, h4, h5⟩ := h
  have hl := blk_lt h1
  have hb : Below (R + 1) w w' := ho.below hg (Below.refl _ _) (by omega) (by omega)
  refine ⟨A, c, (hb.block R (Nat.lt_succ_self R)).trans h1, ⟨h2.1, fun hn => ?_⟩, h3, h4, h5⟩
  obtain ⟨b, o', rfl, hb9, hc⟩ := h2.2 hn
  have hlt : lo ≤ b ∧ b < R := h5 _ rfl
  refine ⟨b, o', rfl, Nat.lt_of_lt_of_le hb9 hb.size, fun j hj => ?_⟩
  rw [← hc j hj]
  exact hb.cell (p := ⟨b, o' + j, none⟩) (by show b < R + 1; omega)
theorem blk_grown {w w' : World} {b base n : Nat} {o : Obj} {v : Value} {flat : List Int} (h : w.heap[b]? = some o) (ho : OwN w base v n flat) (hg : w.grownBy w' v.ownBlock) (hR : b < base) : w'.heap[b]? = some o := by
  have hb : Below (b + 1) w w' := ho.below hg (Below.refl _ _) (by omega) (blk_lt h)
  exact (hb.block b (Nat.lt_succ_self b)).trans h
/-! What is read. -/
def stepR (s : List Int × Int) (m : Nat) : List Int × Int := (rRest s.1 s.2 m, rBad s.1 s.2 m)
def numR (s : List Int × Int) (m : Nat) : Int := num (rOut s.1 s.2 m)
def nmS (s : List Int × Int) : List Int := nmR s.1 s.2
def namesR : Nat → List Int × Int → List Int × (List Int × Int)
  | 0, s => ([], s)
  | n + 1, s => if rWrong s.2 = 0 then (nmS s ++ (namesR n (stepR s 16)).1, (namesR n (stepR s 16)).2) else ([], s)
structure MsgR where
  c : Int
  k : Int
  i : Int
  g : Int
  nm : List Int
  flat : List Int
  ds : List Int
def readM (named : Bool) (bs : List Int) : MsgR :=
  let s1 := stepR (bs, 0) 1; let s2 := stepR s1 8; let s3 := stepR s2 1; let s4 := if named then stepR s3 16 else s3; let s5 := stepR s4 8; let s6 := stepR s5 2
  let t := namesR (numR s5 2).toNat s6
  ⟨numR (bs, 0) 1, numR s2 1, numR s1 8, numR s4 8, if named then nmS s3 else zero16, t.1, sOut t.2.1 t.2.2⟩
theorem readM_is (named : Bool) (bs : List Int) : ∃ s1 s2 s3 s4 s5 s6, s1 = stepR (bs, 0) 1 ∧ s2 = stepR s1 8 ∧ s3 = stepR s2 1 ∧ s4 = (if named then stepR s3 16 else s3) ∧ s5 = stepR s4 8 ∧ s6 = stepR s5 2 ∧
    readM named bs = ⟨numR (bs, 0) 1, numR s2 1, numR s1 8, numR s4 8, if named then nmS s3 else zero16, (namesR (numR s5 2).toNat s6).1, sOut (namesR (numR s5 2).toNat s6).2.1 (namesR (numR s5 2).toNat s6).2.2⟩ :=
  ⟨_, _, _, _, _, _, rfl, rfl, rfl, rfl, rfl, rfl, rfl⟩
/-- A reader in block R, in a state. -/
def RdS (lo : Nat) (w : World) (R : Nat) (s : List Int × Int) : Prop := RdrL lo w R s.1 s.2 ∧ IsB s.1 ∧ s.1.length ≤ 35184372088832 ∧ lo ≤ R
variable {lo : Nat}
theorem RdS.step {w w' : World} {R : Nat} {s : List Int × Int} (h : RdS lo w R s) {m : Nat} (hr : RdrL lo w' R (stepR s m).1 (stepR s m).2) : RdS lo w' R (stepR s m) :=
  ⟨hr, rRest_isB h.2.1 _ _, Nat.le_trans (rRest_le _ _ _) h.2.2.1, h.2.2.2⟩
theorem numS_any (w : World) (R : Nat) (s : List Int × Int) (m : Nat) (h : RdS lo w R s) (h1 : 1 ≤ m) (h8 : m ≤ 8) :
    Calls Try.prog 84 #[.pointer (some ⟨R, 0, none⟩), .int .i64 m] w fun e w' => e = .returned (.int .u64 (numR s m)) ∧ RdS lo w' R (stepR s m) ∧ OnlyR R w w' := by
  refine (rnum_any w R s.1 s.2 m h.1 h.2.1 h1 h8 (by have := h.2.2.1; omega)).mono ?_
  rintro e w' ⟨rfl, hr, ho⟩
  exact ⟨rfl, h.step hr, ho⟩
theorem nameS_any (w : World) (R : Nat) (s : List Int × Int) (h : RdS lo w R s) :
    Calls Try.prog 115 #[.pointer (some ⟨R, 0, none⟩)] w fun e w' => e = .returned (.agg (ints .u8 (nmS s))) ∧ RdS lo w' R (stepR s 16) ∧ OnlyR R w w' := by
  refine (mname_any w R s.1 s.2 h.2.2.2 h.1 h.2.2.1).mono ?_
  rintro e w' ⟨rfl, hr, ho⟩
  exact ⟨rfl, h.step (m := 16) hr, ho⟩
theorem numR_lt {s : List Int × Int} (h : IsB s.1) (m : Nat) : 0 ≤ numR s m ∧ numR s m < 256 ^ m := num_lt _ (rOut_isB h _ _) m (rOut_m _ _ _)
theorem RdS.kept {w w' : World} {R : Nat} {s : List Int × Int} (h : RdS lo w R s) (hb : Below w.heap.size w w') : RdS lo w' R s := ⟨h.1.kept hb, h.2⟩
theorem RdS.upd {w w' : World} {R g : Nat} {o : Obj} {s : List Int × Int} (h : RdS lo w R s) (hu : Upd w w' g o) (hR : R < g ∨ g < lo) : RdS lo w' R s := ⟨h.1.upd' hu hR h.2.2.2, h.2⟩
theorem nmS_length (s : List Int × Int) : (nmS s).length = 16 := nmR_length _ _
end Go.Proofs.Ythnommoljikaiaa
