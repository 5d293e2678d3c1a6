/- The walks over New, Write and Safe of a disk. -/
import Derived.Test.YthnommoljikaiaaDsk3
import Derived.ArgAppend
import Derived.Laws.OwnMore
import Derived.Great.BuildSlice
set_option linter.unusedSimpArgs false
set_option linter.unusedVariables false
namespace Go.Proofs.Ythnommoljikaiaa
open Go.RowKit

/-- append: the row is the one that it was, or a new one. -/
theorem run_appendS {P : Program} {w : World} (t ty e : TypeId) (i : TypeInfo) (z : Value) (size bytes : Nat) (ht : P.underlying t = some (.slice e)) (hi : P.info? e = some i) (hz : i.zero = some z)
    (hsize : i.size = size) (hby : i.bytes = bytes) (hzs : z.cells.size = size) (hsz : 0 < size)
    (v : Value) (n : Nat) (xs : List Value) (hown : w.ownsRow 0 e size v n xs)
    (a : Addr) (m c : Nat) (news : List Value) (hl : news.length = m * size) (hnews : ∀ j u, news[j]? = some u → w.cell? (a.add j) = some u) (h1 : ∀ u ∈ news, u.oneCell' = true)
    (h63 : n + m ≤ maxLen) (hbytes : (n + m) * bytes ≤ 140737488355328) :
    ∃ v' w', (Builtin.append_ #[t, t] ty #[v, .slice (some a) m c]).run P w = .ok v' w' ∧ w'.ownsRow 0 e size v' (n + m) (xs ++ news) ∧ w.grownBy w' v.ownBlock ∧ (∀ k, v'.ownBlock = some k → v.ownBlock = some k ∨ w.heap.size ≤ k) := by
  have weak : ∀ {w' : World} {v' : Value} {B : Nat}, w'.ownsRow B e size v' (n + m) (xs ++ news) → w'.ownsRow 0 e size v' (n + m) (xs ++ news) ∧ ∀ k, v'.ownBlock = some k → B ≤ k := by
    rintro w' v' B ⟨h1, h2 | ⟨g, cap, cur, e', hg, h3⟩⟩
    · exact ⟨⟨h1, .inl h2⟩, fun k hk => by rw [h2.1] at hk; cases hk⟩
    · exact ⟨⟨h1, .inr ⟨g, cap, cur, e', Nat.zero_le _, h3⟩⟩, fun k hk => by rw [e'] at hk; cases hk; exact hg⟩
  obtain ⟨hlx, ⟨rfl, rfl⟩ | ⟨g, cap, cur, rfl, hg, hh, hn, hm, hs, htk⟩⟩ := id hown
  · obtain rfl : xs = [] := List.eq_nil_of_length_eq_zero (by simpa using hlx)
    obtain ⟨v', w', hr, ho, hgr, _⟩ := run_append_own (P := P) w w.heap.size t ty e i z size bytes ht hi hz hsize hby hzs hsz (.slice none 0 0) 0 [] (World.ownsRow_nil w _ e size) a m c news hl hnews h1 h63 hbytes (Nat.le_refl _)
    exact ⟨v', w', hr, (weak ho).1, hgr, fun k hk => .inr ((weak ho).2 k hk)⟩
  · by_cases hroom : n + m ≤ cap
    · obtain ⟨v', w', hr, ho, hgr, _⟩ := run_append_own (P := P) w 0 t ty e i z size bytes ht hi hz hsize hby hzs hsz _ n xs hown a m c news hl hnews h1 h63 hbytes (Nat.zero_le _)
      have hsp : ∀ j, j < news.length → 0 + n * i.size + j < cur.size := fun j hj => by
        rw [hs, hsize]
        have : (n + m) * size ≤ cap * size := Nat.mul_le_mul_right _ hroom
        rw [Nat.add_mul] at this
        omega
      have hr2 := run_append_room_cells (P := P) w t ty e i ht hi g 0 n cap a m c news (by rw [hsize]; exact hl) hnews h1 hroom
        (fun j hj => by rw [cell_of_row w g _ cur e (0, 0) hh, Array.getElem?_eq_getElem (hsp j hj)]; rfl) (fun j hj => blk_frozen _ hh)
      rw [hr] at hr2
      cases hr2
      exact ⟨_, _, hr, ho, hgr, fun k hk => .inl hk⟩
    · have hcells := World.ownsRow.cells hown (g := g) rfl
      obtain ⟨v', w', hr, ho, hgr⟩ := run_append_arg_grows (P := P) w t ty e i z size bytes ht hi hz hsize hby hzs hsz ⟨g, 0, none⟩ n cap xs hlx hcells a m c news hl hnews (by omega) h63 hbytes
      exact ⟨v', w', hr, (weak ho).1, ⟨hgr.os, hgr.tape, hgr.output, hgr.size, fun k hk hne => hgr.block k hk (by simp)⟩, fun k hk => .inr ((weak ho).2 k hk)⟩
theorem step_append_run {P : Program} {ops : Array Oper} {o : Oper} {a : Act} {w : World} {K : Act → World → Prop} {Q : Exit → Act → World → Prop} {E : Prop} (hgd : Region.wanted o (yielded ops a.tmps) = true) (s x : Operand) (t : TypeId)
    (ho : o.op = .call { callee := .builtin .append, args := #[s, x], argTypes := #[t, t] }) (V X : Value) (hs : a.eval s = V) (hx : a.eval x = X) (v' : Value) (w' : World) (hr : (Builtin.append_ #[t, t] o.type #[V, X]).run P w = .ok v' w')
    (h : K (a.put o.dst v') w') : if Region.wanted o (yielded ops a.tmps) = true then Oper.wp P o a w K Q else E := by
  rw [if_pos hgd]
  unfold Oper.wp
  simp [execOp, ho, resolve, invoke, builtin, hs, hx, hr, Result.andThen]
  exact h

theorem step_append_S {P : Program} {ops : Array Oper} {o : Oper} {a : Act} {w : World} {K : Act → World → Prop} {Q : Exit → Act → World → Prop} {E : Prop} (hgd : Region.wanted o (yielded ops a.tmps) = true) (s x : Operand) (t : TypeId)
    (ho : o.op = .call { callee := .builtin .append, args := #[s, x], argTypes := #[t, t] }) (e : TypeId) (i : TypeInfo) (z : Value) (size bytes : Nat) (ht : P.underlying t = some (.slice e)) (hi : P.info? e = some i) (hz : i.zero = some z)
    (hsize : i.size = size) (hby : i.bytes = bytes) (hzs : z.cells.size = size) (hsz : 0 < size)
    (v : Value) (n : Nat) (xs : List Value) (hs : a.eval s = v) (ad : Addr) (m c : Nat) (news : List Value) (hx : a.eval x = .slice (some ad) m c) (hl : news.length = m * size) (h1 : ∀ u ∈ news, u.oneCell' = true)
    (h63 : n + m ≤ maxLen) (hbytes : (n + m) * bytes ≤ 140737488355328)
    (hown : w.ownsRow 0 e size v n xs) (hnews : ∀ j u, news[j]? = some u → w.cell? (ad.add j) = some u)
    (h : ∀ v' w', w'.ownsRow 0 e size v' (n + m) (xs ++ news) → w.grownBy w' v.ownBlock → (∀ k, v'.ownBlock = some k → v.ownBlock = some k ∨ w.heap.size ≤ k) → K (a.put o.dst v') w') :
    if Region.wanted o (yielded ops a.tmps) = true then Oper.wp P o a w K Q else E := by
  obtain ⟨v', w', hr, h2, h3, h4⟩ := run_appendS (P := P) (w := w) t o.type e i z size bytes ht hi hz hsize hby hzs hsz v n xs hown ad m c news hl hnews h1 h63 hbytes
  exact step_append_run hgd s x t ho v _ hs hx v' w' hr (h v' w' h2 h3 h4)
/-- A slice of one struct or array is built. -/
theorem step_build1 {P : Program} {ops : Array Oper} {o : Oper} {a : Act} {w : World} {K : Act → World → Prop} {Q : Exit → Act → World → Prop} {E : Prop} (hgd : Region.wanted o (yielded ops a.tmps) = true) (t e : TypeId) (x : Operand) (ho : o.op = .buildSlice t 1 #[(0, x)])
    (cs : Array Value) (hx : a.eval x = .agg cs) (ie : TypeInfo) (z : Value) (hu : P.underlying t = some (.slice e)) (hie : P.info? e = some ie) (hz : ie.zero = some z) (hs : ie.size = cs.size) (hpos : 0 < cs.size) (hsmall : cs.size ≤ 16777216)
    (h : K (a.put o.dst (.slice (some ⟨w.heap.size, 0, none⟩) 1 1)) (w.alloc (.cells cs e))) : if Region.wanted o (yielded ops a.tmps) = true then Oper.wp P o a w K Q else E := by
  rw [if_pos hgd]
  refine wp_buildSlice t e 1 _ ho cs ie z hu hie hz (by rw [hs]; omega) (by rw [hs]; omega) ?_ h
  have e1 : ((#[(0, x)] : Array (Nat × Operand)).map fun (i, x) => (i, a.eval x)).toList = [(0, .agg cs)] := by simp [hx]
  rw [e1, hs, Nat.one_mul]
  have hsz : ((Array.range cs.size).map (z.cells[· % z.cells.size]!)).size = cs.size := by simp
  rw [fill_cons (off := 0) (size := cs.size) (by simp) rfl (by rw [hsz]; omega), fill_nil]
  exact congrArg some (putRow_all _ _ (by rw [hsz]; exact Array.length_toList))

/-- A disk in block D, all its parts in blocks of S. -/
def DskIs (w : World) (S : Nat → Prop) (D : Nat) (st : DSt) : Prop := ∃ mb uv, DskAt w S D mb uv st
theorem DskIs.same {w w' : World} {S : Nat → Prop} {D : Nat} {st : DSt} (h : DskIs w S D st) (hs : ∀ k, S k → k < w.heap.size → w'.heap[k]? = w.heap[k]?) : DskIs w' S D st := by
  obtain ⟨mb, uv, h⟩ := h
  refine ⟨mb, uv, h.same fun k hk => hs k ?_ (h.lt k hk)⟩
  rcases hk with rfl | rfl | hk
  · exact h.inD
  · exact h.inM
  · exact h.inU k hk
theorem DskIs.kept {w w' : World} {S : Nat → Prop} {D : Nat} {st : DSt} (h : DskIs w S D st) (hb : Below w.heap.size w w') : DskIs w' S D st := h.same fun k _ hk => hb.block k hk
theorem DskIs.only {w w' : World} {S T : Nat → Prop} {D : Nat} {st : DSt} (h : DskIs w S D st) (ho : Only T w w') (hST : ∀ k, S k → ¬ T k) : DskIs w' S D st := h.same fun k hk hl => ho.block k hl (hST k hk)
theorem DskIs.mono {w : World} {S T : Nat → Prop} {D : Nat} {st : DSt} (h : DskIs w S D st) (hs : ∀ k, S k → T k) : DskIs w T D st := by
  obtain ⟨mb, uv, h⟩ := h
  exact ⟨mb, uv, h.mono hs⟩
theorem DskIs.facts {w : World} {S : Nat → Prop} {D : Nat} {st : DSt} (h : DskIs w S D st) : (∀ k, SecOk (st.f k)) ∧ (∀ x ∈ st.und, SecOk x.2) ∧ -1 ≤ st.left ∧ st.left ≤ 9223372036854775807 ∧ 1 ≤ st.n ∧ st.n ≤ 2048 := by
  obtain ⟨mb, uv, h⟩ := h
  exact ⟨h.secs, h.unds, h.lo, h.hi, h.n1, h.n2⟩
set_option maxRecDepth 100000 in
theorem dbuilt (n : Int) (m : Nat) : Try.prog.built 63 [(0, .int .i64 n), (1, .map (some m)), (3, .int .i64 (-1))] = some (dCells n (.map (some m)) (.slice none 0 0) (-1) false) := by kernel_rfl
set_option maxRecDepth 100000 in
set_option maxHeartbeats 400000 in
theorem dnew_any (w : World) (n : Int) (h1 : 1 ≤ n) (h2 : n ≤ 2048) :
    Calls Try.prog 18 #[.int .i64 n] w fun e w' => ∃ D, e = .returned (.tuple #[.pointer (some ⟨D, 0, none⟩), .int .i64 0]) ∧ DskIs w' (fun k => w.heap.size ≤ k) D ⟨n, fun _ => zeros256, [], -1, false⟩ ∧ Below w.heap.size w w' := by
  have h1' : ¬ n < 1 := by omega
  have h2' : ¬ 2048 < n := by omega
  have hmm := @run_makeMap Try.prog
  have HBT := bx (fun m => dbuilt n m)
  go_enter Try.func18, Try.ntmps18
  go_wp2_with (first
    | ((with_reducible refine at_build 12 ?_); go_must (refine wpList_build2 rfl 63 [(0, .tmp 10), (1, .tmp 11), (3, .const (.int .i64 (-1)))] rfl _ rfl _ (HBT.out _) ?_)))
  go_ret2
  refine ⟨w.heap.size + 1, rfl, ⟨w.heap.size, .slice none 0 0, ?_⟩, ((Below.refl _ _).alloc (Nat.le_refl _) _).alloc (by simp) _⟩
  have hb := blk_new (w.alloc (.map #[] 0)) (.cells (dCells n (.map (some w.heap.size)) (.slice none 0 0) (-1) false) 63)
  simp only [World.size_alloc] at hb
  exact ⟨hb, ⟨fun _ => none, (mapI_made .i64 w).same (Below.heap_alloc _ _ _ (by simp)), fun k => .inl ⟨rfl, rfl⟩⟩, World.ownsRow_nil _ _ _ _, by omega, Nat.le_refl _, (fun k hk => by cases hk), (fun _ => zeros_ok), (fun x hx => by cases hx), (by show (-1 : Int) ≤ -1; decide), (by show (-1 : Int) ≤ _; decide), h1, h2⟩

/-- copy of bytes, whatever they are: one block is written. -/
theorem wpList_copyB {w : World} {ops : Array Oper} {rest : List Oper} {o : Oper} {a : Act} {Q : Exit → Act → World → Prop} (hgd : o.guard = none) (d s : Operand)
    (ho : o.op = .call { callee := .builtin .copy, args := #[d, s], argTypes := #[22, 22] })
    (g off dLen dCap : Nat) (hd : a.eval d = .slice (some ⟨g, off, none⟩) dLen dCap) (A : Option Addr) (n cap : Nat) (bs : List Int) (hs : a.eval s = .slice A n cap) (hrd : RdB w A n bs)
    (cur : Array Value) (t : TypeId) (hg : w.heap[g]? = some (.cells cur t (0, 0))) (hn : n ≤ dLen) (hfit : off + n ≤ cur.size)
    (h : ∀ w', Upd w w' g (.cells (putRow cur off (bs.map (Value.int .u8))) t (0, 0)) → wpList Try.prog ops Q rest (a.put o.dst (goInt n)) w') : wpList Try.prog ops Q (o :: rest) a w := by
  have hl := hrd.1
  by_cases h0 : n = 0
  · subst h0
    obtain rfl : bs = [] := List.eq_nil_of_length_eq_zero hl
    have hr := run_copy_none (P := Try.prog) w 22 22 o.type 5 (some ⟨g, off, none⟩) A dLen dCap 0 cap Try.underlying22 u8Info (by show min 0 dLen = 0; omega)
    exact Lib.wpList_copy_run w hgd d s _ _ ho _ _ hd hs hr (h _ ⟨rfl, rfl, rfl, rfl, hg, fun _ _ => rfl⟩)
  · obtain ⟨b, o', rfl, hb, hc⟩ := hrd.2 (by omega)
    have hsrc : ∀ j v, (bs.map (Value.int .u8))[j]? = some v → w.cell? ((⟨b, o', none⟩ : Addr).add j) = some v := by
      intro j v hv
      obtain ⟨hj, e⟩ := List.getElem?_eq_some_iff.1 hv
      have hj' : j < bs.length := by simpa using hj
      rw [addr_add, hc j (by omega), ← e]
      simp [List.getD_eq_getElem?_getD, List.getElem?_eq_getElem hj']
    have := wpList_copy_upd (P := Try.prog) (ops := ops) (rest := rest) (a := a) (Q := Q) hgd d s _ _ ho 5 Try.underlying22 u8Info g off ⟨b, o', none⟩ dLen dCap n cap hd hs cur t hg (bs.map (Value.int .u8)) (by rw [List.length_map, hl]; show n = min n dLen; omega) hsrc (by rw [List.length_map, hl]; exact hfit) (oneCell_map_int _ _)
    refine this fun w' hu => ?_
    rw [List.length_map, hl]
    exact h w' hu
end Go.Proofs.Ythnommoljikaiaa
