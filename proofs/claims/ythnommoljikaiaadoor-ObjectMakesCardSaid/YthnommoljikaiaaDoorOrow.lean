/- Rows of structs that read, and of one's own that grow. -/
import Derived.Test.YthnommoljikaiaaDoorAid2
import Derived.Test.YthnommoljikaiaaDoorAgg
import Derived.Test.YthnommoljikaiaaDoorBuf1
import Derived.Test.YthnommoljikaiaaDoorReg3
import Derived.Test.YthnommoljikaiaaDoorOonly
import Derived.ChangeKeysEq
import Derived.OwnWalk
import Derived.Great.BuildSlice
import Derived.Laws.OwnMore
set_option linter.unusedSimpArgs false
set_option linter.unusedVariables false
namespace Go.Proofs.YthnommoljikaiaaDoor
open Go.RowKit

/-- n structs of s cells each lie behind A. -/
def RowAt (w : World) (A : Option Addr) (n s : Nat) (f : Nat → List Value) : Prop := 0 < n → ∃ b o, A = some ⟨b, o, none⟩ ∧ b < w.heap.size ∧ ∀ j, j < n → w.rangeAt b (o + j * s) (f j)
theorem range_below {w w' : World} {b o : Nat} {l : List Value} (h : w.rangeAt b o l) (hb : Below w.heap.size w w') (hl : b < w.heap.size) : w'.rangeAt b o l := fun j v hv => (hb.cell (p := ⟨b, o + j, none⟩) hl).trans (h j v hv)
theorem RowAt.below {w w' : World} {A : Option Addr} {n s : Nat} {f : Nat → List Value} (h : RowAt w A n s f) (hb : Below w.heap.size w w') : RowAt w' A n s f := fun hn => by
  obtain ⟨b, o, e, hl, hc⟩ := h hn
  exact ⟨b, o, e, Nat.lt_of_lt_of_le hl hb.size, fun j hj => range_below (hc j hj) hb hl⟩
theorem RowAt.at {w : World} {A : Option Addr} {n s : Nat} {f : Nat → List Value} (h : RowAt w A n s f) {j : Nat} (hj : j < n) : ∃ b o, A = some ⟨b, o, none⟩ ∧ b < w.heap.size ∧ ∀ w', Below w.heap.size w w' → w'.rangeAt b (o + j * s) (f j) := by
  obtain ⟨b, o, e, hl, hc⟩ := h (by omega)
  exact ⟨b, o, e, hl, fun w' hb => range_below (hc j hj) hb hl⟩
theorem quietAt_load_row {P : Program} {o : Oper} {a : Act} {C : World → Prop} {w : World} (ty : TypeId) (x : Operand) (ho : o.op = .load ty x) {b off : Nat} (hx : a.eval x = .pointer (some ⟨b, off, none⟩)) {l : List Value} {d : TypeDesc} (hc : w.rangeAt b off l)
    (hu : P.underlying ty = some d) (hd : d.isRow = true) (hi : (P.info? ty).map (·.size) = some l.length) : o.quietAt P a C w (.agg l.toArray) := by
  unfold Oper.quietAt execOp
  simp only [ho, hx, Instr.loadAt, Instr.sureAddr, Sem.run_bind, Sem.run_pure, Result.andThen_ok, run_loadVar_mid w b off ty _ d hc hu hd hi]
  exact ⟨rfl, rfl⟩
def u8s (l : List Int) : List Value := l.map (Value.int .u8)
theorem u8s_length (l : List Int) : (u8s l).length = l.length := by simp [u8s]
/-- A row of structs of one's own. -/
def RowO (w : World) (base : Nat) (e : TypeId) (s : Nat) (v : Value) (n : Nat) : Prop := ∃ cs, w.ownsRow base e s v n cs
section
variable {w w' : World} {base : Nat} {e : TypeId} {s : Nat} {v : Value} {n : Nat}
theorem RowO.nil (w : World) (base : Nat) (e : TypeId) (s : Nat) : RowO w base e s (.slice none 0 0) 0 := ⟨[], World.ownsRow_nil _ _ _ _⟩
theorem RowO.alloc (h : RowO w base e s v n) (o : Obj) : RowO (w.alloc o) base e s v n := h.imp fun _ hc => World.ownsRow.alloc hc o
theorem RowO.same (h : RowO w base e s v n) (hs : ∀ k, base ≤ k → k < w.heap.size → w'.heap[k]? = w.heap[k]?) : RowO w' base e s v n := by
  obtain ⟨cs, h1, h2 | ⟨g, cap, cur, e', hg, hh, h2⟩⟩ := h
  · exact ⟨cs, h1, .inl h2⟩
  · exact ⟨cs, h1, .inr ⟨g, cap, cur, e', hg, (hs g hg (blk_lt hh)).trans hh, h2⟩⟩
theorem RowO.kept (h : RowO w base e s v n) (hb : Below w.heap.size w w') : RowO w' base e s v n := h.same fun k _ hk => hb.block k hk
theorem RowO.upd (h : RowO w base e s v n) {g : Nat} {o : Obj} (hu : Upd w w' g o) (hg : g < base) : RowO w' base e s v n := h.same fun k hk _ => hu.other k (by omega)
theorem RowO.lt (h : RowO w base e s v n) : ∀ k, v.ownBlock = some k → base ≤ k ∧ k < w.heap.size := by
  obtain ⟨cs, hc⟩ := h
  exact World.ownsRow.lt hc
theorem RowO.form (h : RowO w base e s v n) : ∃ A c, v = .slice A n c := by
  obtain ⟨cs, _, ⟨rfl, rfl⟩ | ⟨g, cap, cur, rfl, _⟩⟩ := h
  · exact ⟨none, 0, rfl⟩
  · exact ⟨_, _, rfl⟩
end
section
variable {P : Program} {ops : Array Oper} {rest : List Oper} {o : Oper} {a : Act} {w : World} {Q : Exit → Act → World → Prop}
/-- A slice literal of one struct. -/
theorem wpList_bs1 (hgd : Region.wanted o (yielded ops a.tmps) = true) (t e : TypeId) (x : Operand) (ho : o.op = .buildSlice t 1 #[(0, x)])
    (cs : Array Value) (hx : a.eval x = .agg cs) (z : Value) (size bytes : Nat) (hu : P.underlying t = some (.slice e)) (hi : (P.info? e).map (fun i => (i.zero, i.size, i.bytes)) = some (some z, size, bytes)) (hs : cs.size = size) (hpos : 0 < size) (hsmall : size ≤ 16777216)
    (h : ∀ w5 b5, w.alloc (.cells cs e) = w5 → w.heap.size = b5 → wpList P ops Q rest (a.put o.dst (.slice (some ⟨b5, 0, none⟩) 1 1)) w5) : wpList P ops Q (o :: rest) a w := by
  obtain ⟨ie, hie, hz, hsz, _⟩ := info_parts hi
  subst hs
  refine wpList_want hgd fun K hK => ?_
  refine wp_buildSlice t e 1 _ ho cs ie z hu hie hz (by rw [hsz]; omega) (by rw [hsz]; omega) ?_ (hK _ _ (h _ _ rfl rfl))
  have e1 : ((#[(0, x)] : Array (Nat × Operand)).map fun (i, x) => (i, a.eval x)).toList = [(0, .agg cs)] := by simp [hx]
  rw [e1, hsz, Nat.one_mul]
  have hsz2 : ((Array.range cs.size).map (z.cells[· % z.cells.size]!)).size = cs.size := by simp
  rw [fill_cons (off := 0) (size := cs.size) (by simp) rfl (by rw [hsz2]; omega), fill_nil]
  exact congrArg some (putRow_all _ _ (by rw [hsz2]; exact Array.length_toList))
/-- append of one struct to a row of one's own. -/
theorem wpList_ap1 (hgd : o.guard = none) (s x : Operand) (t : TypeId) (ho : o.op = .call { callee := .builtin .append, args := #[s, x], argTypes := #[t, t] })
    (base : Nat) (e : TypeId) (z : Value) (size bytes : Nat) (ht : P.underlying t = some (.slice e)) (hi : (P.info? e).map (fun i => (i.zero, i.size, i.bytes)) = some (some z, size, bytes)) (hzs : z.cells.size = size) (hsz : 0 < size) (hby : bytes ≤ 1024)
    (v : Value) (n : Nat) (hs : a.eval s = v) (hown : RowO w base e size v n) (b5 : Nat) (hx : a.eval x = .slice (some ⟨b5, 0, none⟩) 1 1) (cs : Array Value) (hc : w.heap[b5]? = some (.cells cs e (0, 0))) (hl : cs.size = size) (h1 : ∀ u ∈ cs.toList, u.oneCell' = true)
    (hn : n ≤ 4294967296) (hbase : base ≤ w.heap.size)
    (h : ∀ v' w', RowO w' base e size v' (n + 1) → (∀ B a0, Below B a0 w → B ≤ base → B ≤ w.heap.size → Below B a0 w') → (∀ k, k < w.heap.size → v.ownBlock ≠ some k → w'.heap[k]? = w.heap[k]?) → wpList P ops Q rest (a.put o.dst v') w') : wpList P ops Q (o :: rest) a w := by
  obtain ⟨i0, hi0, hz0, hz1, hz2⟩ := info_parts hi
  obtain ⟨cl, hcl⟩ := hown
  refine wpList_append_own w hgd s x t ho base e i0 z size bytes ht hi0 hz0 hz1 hz2 hzs hsz v n cl hs hcl ⟨b5, 0, none⟩ 1 1 cs.toList hx (by rw [Nat.one_mul, Array.length_toList]; exact hl) (fun j u hj => ?_) h1 (by simp only [maxLen]; omega) ?_ hbase ?_
  · rw [addr_add, Nat.zero_add]
    exact blk_cell hc (by rw [← Array.getElem?_toList]; exact hj)
  · exact Nat.le_trans (Nat.mul_le_mul_left _ hby) (by omega)
  · intro v' w' h2 h3 _
    refine h v' w' ⟨_, h2⟩ (fun B a0 hB hb1 hb2 => hB.grown h3 hb2 fun k hk => ?_) (fun k hk hne => h3.block k hk (Ne.symm hne))
    have := (World.ownsRow.lt hcl k hk).1
    omega
end
/-- What is read of one of the arrays in a row of structs. -/
theorem row_rdB {w : World} {b o : Nat} {l pre : List Value} {id : List Int} {post : List Value} (h : w.rangeAt b o l) (hl : l = pre ++ u8s id ++ post) (hb : b < w.heap.size) : RdB w (some ⟨b, o + pre.length, none⟩) id.length id :=
  ⟨rfl, fun _ => ⟨b, o + pre.length, rfl, hb, fun j hj => by
    have h1 := h (pre.length + j) (.int .u8 (id.getD j 0)) (by
      rw [hl, List.append_assoc, List.getElem?_append_right (by omega), show pre.length + j - pre.length = j by omega, List.getElem?_append_left (by rw [u8s_length]; exact hj)]
      simp [u8s, List.getD_eq_getElem?_getD, List.getElem?_eq_getElem hj])
    rw [← Nat.add_assoc] at h1
    exact h1⟩⟩
theorem at_bs {P : Program} {ops : Array Oper} {rest : List Oper} {t T : TypeId} {n : Nat} {x : Array (Nat × Operand)} {pos : String} {after : Array Edge} {gd : Option (Nat × Bool)} {a : Act} {w : World} {Q : Exit → Act → World → Prop} (d : Nat)
    (h : wpList P ops Q ({ dst := some d, op := .buildSlice t n x, type := T, pos := pos, after := after, guard := gd } :: rest) a w) : wpList P ops Q ({ dst := some d, op := .buildSlice t n x, type := T, pos := pos, after := after, guard := gd } :: rest) a w := h
theorem row_rd {w : World} {b : Nat} {l : List Int} {T : TypeId} (h : w.heap[b]? = some (.cells (u8s l).toArray T (0, 0))) {n : Nat} (hn : l.length = n) : RdB w (some ⟨b, 0, none⟩) n l :=
  ⟨hn, fun _ => ⟨b, 0, rfl, blk_lt h, fun j hj => by rw [Nat.zero_add]; exact blk_int (k := .u8) (l := l) h j (by omega)⟩⟩
theorem one_ss (s t : ByteArray) : ∀ u ∈ (#[.string s, .string t] : Array Value).toList, u.oneCell' = true := by
  intro u hu
  simp only [List.mem_cons, List.not_mem_nil, or_false] at hu
  rcases hu with rfl | rfl <;> rfl
theorem updC {w : World} {b j : Nat} {c : Array Value} {T : TypeId} (h : w.heap[b]? = some (.cells c T (0, 0))) (v : Value) : Upd w (w.setCell ⟨b, j, none⟩ v) b (.cells (c.setIfInBounds j v) T (0, 0)) :=
  ⟨rfl, rfl, rfl, by simp [World.setCell], heap_setCell_same w b j c T _ h, fun k hk => Below.heap_setCell _ _ _ _ hk⟩
end Go.Proofs.YthnommoljikaiaaDoor
