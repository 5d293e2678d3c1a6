/- Objects: law10.Ids, entries, mark, Own: the arguments for the document's side. -/
import Derived.Test.YthnommoljikaiaaDoorObj8
set_option linter.unusedSimpArgs false
set_option linter.unusedVariables false
namespace Go.Proofs.YthnommoljikaiaaDoor
open Go.RowKit

def flatF (f : Nat → List Value) (n : Nat) : List Value := ((List.range n).map f).flatten
theorem flatF_succ (f : Nat → List Value) (n : Nat) : flatF f (n + 1) = flatF f n ++ f n := by simp [flatF, List.range_succ]
theorem flatF_length {f : Nat → List Value} {s : Nat} : ∀ {n : Nat}, (∀ j, j < n → (f j).length = s) → (flatF f n).length = n * s
  | 0, _ => by simp [flatF]
  | n + 1, h => by rw [flatF_succ, List.length_append, flatF_length fun j hj => h j (by omega), h n (by omega), Nat.succ_mul]
theorem flatF_get {f : Nat → List Value} {s : Nat} : ∀ {n : Nat}, (∀ j, j < n → (f j).length = s) → ∀ {j i : Nat}, j < n → i < s → (flatF f n)[j * s + i]? = (f j)[i]?
  | 0, _, j, i, hj, _ => absurd hj (Nat.not_lt_zero _)
  | n + 1, h, j, i, hj, hi => by
    rw [flatF_succ]
    have hl := flatF_length (f := f) (s := s) (n := n) fun j hj => h j (by omega)
    by_cases hjn : j < n
    · have hb : j * s + i < n * s := by
        have := Nat.mul_le_mul_right s (show j + 1 ≤ n by omega)
        rw [Nat.succ_mul] at this
        omega
      rw [List.getElem?_append_left (by omega), flatF_get (fun j hj => h j (by omega)) hjn hi]
    · obtain rfl : j = n := by omega
      rw [List.getElem?_append_right (by omega), hl, Nat.add_sub_cancel_left]
/-- A slice of structs that lies in a block of one's own (from 'base' on); its cells. -/
def OwR (w : World) (base : Nat) (T : TypeId) (s : Nat) (v : Value) (n : Nat) (f : Nat → List Value) : Prop := w.ownsRow base T s v n (flatF f n)
section
variable {w w' : World} {base s n : Nat} {T : TypeId} {v : Value} {f : Nat → List Value}
theorem OwR.kept (h : OwR w base T s v n f) (hb : Below w.heap.size w w') : OwR w' base T s v n f := by
  obtain ⟨h1, h2 | ⟨g, cap, cur, e, hg, hh, h2⟩⟩ := h
  · exact ⟨h1, .inl h2⟩
  · exact ⟨h1, .inr ⟨g, cap, cur, e, hg, (hb.block g (blk_lt hh)).trans hh, h2⟩⟩
theorem OwR.nil (w : World) (base : Nat) (T : TypeId) (s : Nat) (f : Nat → List Value) : OwR w base T s (.slice none 0 0) 0 f := World.ownsRow_nil _ _ _ _
theorem OwR.rd (h : OwR w base T s v n f) (hl : ∀ j, j < n → (f j).length = s) : ∃ A cap, v = .slice A n cap ∧ (∀ p, A = some p → base ≤ p.block) ∧ RowAt w A n s f := by
  obtain ⟨h1, ⟨rfl, h0⟩ | ⟨g, cap, cur, rfl, hb, hg, hn, hm, hs, htk⟩⟩ := h
  · exact ⟨none, 0, by rw [h0], fun p hp => (by cases hp), fun h => by omega⟩
  · refine ⟨some ⟨g, 0, none⟩, cap, rfl, fun p hp => (by cases hp; exact hb), fun hn0 => ⟨g, 0, rfl, blk_lt hg, fun j hj i u hi => ?_⟩⟩
    have his : i < s := by
      have := (List.getElem?_eq_some_iff.1 hi).1
      rw [hl j hj] at this
      exact this
    have hb2 : j * s + i < n * s := by
      have := Nat.mul_le_mul_right s (show j + 1 ≤ n by omega)
      rw [Nat.succ_mul] at this
      omega
    refine blk_cell hg ?_
    have e : (cur.toList.take (n * s))[j * s + i]? = (flatF f n)[j * s + i]? := by rw [htk]
    rw [List.getElem?_take_of_lt hb2, Array.getElem?_toList, flatF_get hl hj his] at e
    rw [Nat.zero_add, e]
    exact hi
end
theorem RowAt.upd_ne {w w' : World} {A : Option Addr} {n s : Nat} {f : Nat → List Value} (h : RowAt w A n s f) {g : Nat} {o : Obj} (hu : Upd w w' g o) (hne : ∀ p, A = some p → p.block ≠ g) : RowAt w' A n s f := fun hn => by
  obtain ⟨b, o1, e, hl, hc⟩ := h hn
  refine ⟨b, o1, e, by rw [hu.size]; exact hl, fun j hj i v hv => ?_⟩
  have := hc j hj i v hv
  rw [← this]
  unfold World.cell?
  rw [hu.other b (hne _ e)]
/-- 'append(s, x)' of one struct whose cells are known. -/
theorem wpList_apR {P : Program} {w : World} {ops : Array Oper} {rest : List Oper} {o : Oper} {a : Act} {Q : Exit → Act → World → Prop} (hgd : o.guard = none) (s x : Operand) (t : TypeId) (ho : o.op = .call { callee := .builtin .append, args := #[s, x], argTypes := #[t, t] })
    (base : Nat) (e : TypeId) (z : Value) (size bytes : Nat) (ht : P.underlying t = some (.slice e)) (hi : (P.info? e).map (fun i => (i.zero, i.size, i.bytes)) = some (some z, size, bytes)) (hzs : z.cells.size = size) (hsz : 0 < size) (hby : bytes ≤ 1024)
    (v : Value) (n : Nat) (f : Nat → List Value) (hs : a.eval s = v) (hown : OwR w base e size v n f) (b5 : Nat) (c5 : Nat) (hx : a.eval x = .slice (some ⟨b5, 0, none⟩) 1 c5) (hc : w.heap[b5]? = some (.cells (f n).toArray e (0, 0))) (hl : (f n).length = size) (h1 : ∀ u ∈ f n, u.oneCell' = true)
    (hn : n ≤ 4294967296) (hbase : base ≤ w.heap.size)
    (h : ∀ v' w', OwR w' base e size v' (n + 1) f → (∀ B a0, Below B a0 w → B ≤ base → B ≤ w.heap.size → Below B a0 w') → wpList P ops Q rest (a.put o.dst v') w') : wpList P ops Q (o :: rest) a w := by
  obtain ⟨i0, hi0, hz0, hz1, hz2⟩ := info_parts hi
  refine wpList_append_own w hgd s x t ho base e i0 z size bytes ht hi0 hz0 hz1 hz2 hzs hsz v n _ hs hown ⟨b5, 0, none⟩ 1 c5 (f n) hx (by rw [Nat.one_mul]; exact hl) (fun j u hj => ?_) h1 (by simp only [maxLen]; omega) ?_ hbase ?_
  · rw [addr_add, Nat.zero_add]
    exact blk_cell hc (by simpa using hj)
  · exact Nat.le_trans (Nat.mul_le_mul_left _ hby) (by omega)
  · intro v' w' h2 h3 _
    refine h v' w' ?_ (fun B a0 hB hb1 hb2 => hB.grown h3 hb2 fun k hk => ?_)
    · show World.ownsRow _ _ _ _ _ _ _
      rw [flatF_succ]
      exact h2
    · have := (World.ownsRow.lt hown k hk).1
      omega
theorem infoSt : (Tryd.prog.info? 9).map (fun i => (i.zero, i.size, i.bytes)) = some (some (.string ⟨#[]⟩), 1, 16) := by kernel_rfl
theorem infoEnt : (Tryd.prog.info? 91).map (fun i => (i.zero, i.size, i.bytes)) = some (some (.agg #[.string ⟨#[]⟩, .bool false, .string ⟨#[]⟩]), 3, 40) := by kernel_rfl
theorem rent_built (a b : ByteArray) (d : Bool) : Tryd.prog.built 91 [(0, .string a), (1, .bool d), (2, .string b)] = some #[.string a, .bool d, .string b] := by kernel_rfl
def strR (P : Nat → List Int) (j : Nat) : List Value := [.string (strOfNums (P j))]
def entR (L : Nat → Ent) (j : Nat) : List Value := (L j).rcells
/-- A row of structs is told. -/
def RowO1 (w : World) (n s : Nat) (f : Nat → List Value) (e : Ending) (w' : World) : Prop := ∃ A c, e = .returned (.slice A n c) ∧ RowAt w' A n s f ∧ (∀ p, A = some p → w.heap.size ≤ p.block) ∧ Below w.heap.size w w'
set_option maxRecDepth 100000 in
set_option maxHeartbeats 1000000 in
theorem ids_any (A : Option Addr) (n cap : Nat) (P : Nat → List Int) (w : World) (hr : RowAt w A n 32 (fun j => u8s (P j))) (hid : ∀ j, j < n → (P j).length = 32) (hn : n ≤ 4294967296) :
    Calls Tryd.prog 34 #[.slice A n cap] w (RowO1 w n 1 (strR P)) := by
  have HR := bx hr; have HID := bx hid
  clear hr hid
  go_enter Tryd.func34, Tryd.ntmps34
  go_wp2_with fail
  go_loopw [3, 4] (fun s i wr => ∃ j : Nat, j ≤ n ∧ i = .int .i64 j ∧ OwR wr w.heap.size 9 1 s j (strR P) ∧ Below w.heap.size w wr) (fun _ i _ => (n - intOf i).toNat)
  case atStart => exact ⟨0, Nat.zero_le _, rfl, OwR.nil _ _ _ _ _, Below.refl _ _⟩
  case round =>
    rename World => wr
    obtain ⟨j, hj, rfl, ho, hb⟩ := hrel
    have O := bx ho; have B := bx hb
    clear ho hb
    by_cases hlt : j < n
    · have hlt' : (j : Int) < n := by omega
      obtain ⟨b0, o0, rfl, hl0, hc0⟩ := HR.out.at hlt
      have hidj := HID.out j hlt
      have hsub := row_rdB (pre := []) (id := P j) (post := []) (hc0 wr B.out) (by simp) (Nat.lt_of_lt_of_le hl0 B.out.size)
      rw [hidj] at hsub
      have cv0 : (convert 41 9 (.slice (some ⟨b0, o0 + j * 32, none⟩) 32 32)).run Tryd.prog wr = .ok (.string (strOfNums (P j))) wr := str_of hsub 32
      have slz := arr_slice_all (P := Tryd.prog) (t := 32) Tryd.underlying32 Tryd.sizeOf5 b0 (o0 + j * 32)
      have HN := bx (show (wr.alloc (.cells #[.string (strOfNums (P j))] 9)).heap[wr.heap.size]? = some (.cells (strR P j).toArray 9 (0, 0)) from blk_new wr _)
      have BA := bx (B.out.alloc B.out.size (.cells #[.string (strOfNums (P j))] 9))
      have OA := bx (O.out.kept ((Below.refl _ _).alloc (Nat.le_refl _) (.cells #[.string (strOfNums (P j))] 9)))
      have H1 : Bx (∀ u ∈ strR P j, u.oneCell' = true) := ⟨by intro u hu; simp only [strR, List.mem_cons, List.not_mem_nil, or_false] at hu; subst hu; rfl⟩
      clear hsub hl0 hc0
      generalize strOfNums (P j) = t at *
      go_wp2_with (first
        | ((with_reducible refine at_call 18 ?_); go_must (refine wpList_apR rfl (.tmp 11) (.tmp 17) 22 rfl w.heap.size 9 _ 1 16 Tryd.underlying22 infoSt rfl (by decide) (by decide) _ j (strR P) rfl OA.out wr.heap.size 1 rfl HN.out rfl H1.out (by omega) BA.out.size ?_; intro v' w' h1 h2; have K1 := bx h1; have K2 := bx (h2 _ _ BA.out (Nat.le_refl _) BA.out.size); clear h1 h2)))
      go_roundw
      case rel => exact ⟨j + 1, by omega, by first | rfl | go_num, K1.out, K2.out⟩
      case measure => simp only [intOf]; omega
    · have hlt' : ¬ (j : Int) < n := by omega
      obtain rfl : j = n := by omega
      obtain ⟨A9, c9, rfl, hp9, hr9⟩ := O.out.rd fun _ _ => rfl
      have R9 := bx hr9; have P9 := bx hp9
      clear hr9 hp9
      go_wp2_with fail
      go_ret
      exact ⟨_, _, rfl, R9.out, P9.out, B.out⟩
set_option maxRecDepth 100000 in
set_option maxHeartbeats 1000000 in
theorem entries_any (A : Option Addr) (n cap : Nat) (L : Nat → Ent) (w : World) (hr : RowAt w A n 34 (fun j => (L j).cells)) (hid : ∀ j, j < n → (L j).id.length = 32) (hn : n ≤ 4294967296) :
    Calls Tryd.prog 22 #[.slice A n cap] w (RowO1 w n 3 (entR L)) := by
  have HR := bx hr; have HID := bx hid
  clear hr hid
  go_enter Tryd.func22, Tryd.ntmps22
  go_wp2_with fail
  go_loopw [3, 4] (fun s i wr => ∃ j : Nat, j ≤ n ∧ i = .int .i64 j ∧ OwR wr w.heap.size 91 3 s j (entR L) ∧ Below w.heap.size w wr) (fun _ i _ => (n - intOf i).toNat)
  case atStart => exact ⟨0, Nat.zero_le _, rfl, OwR.nil _ _ _ _ _, Below.refl _ _⟩
  case round =>
    rename World => wr
    obtain ⟨j, hj, rfl, ho, hb⟩ := hrel
    have O := bx ho; have B := bx hb
    clear ho hb
    by_cases hlt : j < n
    · have hlt' : (j : Int) < n := by omega
      obtain ⟨b0, o0, rfl, hl0, hc0⟩ := HR.out.at hlt
      have hidj := HID.out j hlt
      have HC : Bx (∀ w', Below w.heap.size w w' → w'.cell? ⟨b0, o0 + j * 34, none⟩ = some (.string (L j).name) ∧ w'.cell? ⟨b0, o0 + j * 34 + 1, none⟩ = some (.bool (L j).dir) ∧ (convert 41 9 (.slice (some ⟨b0, o0 + j * 34 + 2, none⟩) 32 32)).run Tryd.prog w' = .ok (.string (strOfNums (L j).id)) w') := ⟨fun w' hb => by
        have hg := hc0 w' hb
        refine ⟨hg 0 _ rfl, hg 1 _ rfl, ?_⟩
        have hsub := row_rdB (pre := [.string (L j).name, .bool (L j).dir]) (id := (L j).id) (post := []) hg (by simp [Ent.cells]) (Nat.lt_of_lt_of_le hl0 hb.size)
        rw [hidj] at hsub
        exact str_of hsub 32⟩
      have slz := arr_slice_all (P := Tryd.prog) (t := 32) Tryd.underlying32 Tryd.sizeOf5 b0 (o0 + j * 34 + 2)
      have HCS : Bx ((entR L j).toArray = #[.string (L j).name, .bool (L j).dir, .string (strOfNums (L j).id)]) := ⟨rfl⟩
      have HCL : Bx ((entR L j).length = 3) := ⟨rfl⟩
      have H1 : Bx (∀ u ∈ entR L j, u.oneCell' = true) := ⟨by intro u hu; simp only [entR, Ent.rcells, List.mem_cons, List.not_mem_nil, or_false] at hu; rcases hu with rfl | rfl | rfl <;> rfl⟩
      clear hl0 hc0
      generalize strOfNums (L j).id = t at *
      generalize (L j).name = s at *
      generalize (L j).dir = d at *
      have hbu := rent_built s t d
      go_upto_region 5 with fail
      have hS0 : Below w.heap.size w wr.drew := B.out.drew
      refine wp_region_held_drew (S := (fun w' => Below w.heap.size w w')) (by kernel_rfl) hS0 (fun hS => ?_)
      refine takeH (i := 0) (d := 11) (v := ?_) rfl rfl (by kernel_rfl) (by kernel_rfl) (by kernel_rfl) (fun _ _ _ h => h) (Or.inl ⟨by kernel_rfl, ?_⟩) hS ?_; rotate_left 1; (focus ((intro w' hS'; clear hS'; go_simp; try with_reducible rfl); done))
      try simp only [List.setIfInBounds_toArray, List.set_cons_zero, List.set_cons_succ]
      refine takeH (i := 1) (d := 12) (v := ?_) rfl rfl (by kernel_rfl) (by kernel_rfl) (by kernel_rfl) (fun _ _ _ h => h) (Or.inl ⟨by kernel_rfl, ?_⟩) hS ?_; rotate_left 1; (focus ((intro w' hS'; clear hS'; go_simp; try with_reducible rfl); done))
      try simp only [List.setIfInBounds_toArray, List.set_cons_zero, List.set_cons_succ]
      refine takeH (i := 2) (d := 13) (v := ?_) rfl rfl (by kernel_rfl) (by kernel_rfl) (by kernel_rfl) (fun _ _ _ h => h) (Or.inl ⟨by kernel_rfl, ?_⟩) hS ?_; rotate_left 1; (focus ((intro w' hS'; clear hS'; go_simp; try with_reducible rfl); done))
      try simp only [List.setIfInBounds_toArray, List.set_cons_zero, List.set_cons_succ]
      refine takeH (i := 3) (d := 14) (v := ?_) rfl rfl (by kernel_rfl) (by kernel_rfl) (by kernel_rfl) (fun _ _ _ h => h) (Or.inl ⟨by kernel_rfl, ?_⟩) hS ?_; rotate_left 1; (focus ((intro w' hS'; clear hS'; go_simp; try with_reducible rfl); done))
      try simp only [List.setIfInBounds_toArray, List.set_cons_zero, List.set_cons_succ]
      refine takeH (i := 4) (d := 15) (v := ?_) rfl rfl (by kernel_rfl) (by kernel_rfl) (by kernel_rfl) (fun _ _ _ h => h) (Or.inl ⟨by kernel_rfl, ?_⟩) hS ?_; rotate_left 1; (focus ((intro w' hS'; clear hS'; go_simp; try with_reducible rfl); done))
      try simp only [List.setIfInBounds_toArray, List.set_cons_zero, List.set_cons_succ]
      refine takeH (i := 5) (d := 16) (v := ?_) rfl rfl (by kernel_rfl) (by kernel_rfl) (by kernel_rfl) (fun _ _ _ h => h) (Or.inl ⟨by kernel_rfl, ?_⟩) hS ?_; rotate_left 1; (focus ((intro w' hS'; obtain ⟨z0, z1, z2⟩ := HC.out w' hS'; clear hS'; go_simp; try with_reducible rfl); done))
      try simp only [List.setIfInBounds_toArray, List.set_cons_zero, List.set_cons_succ]
      refine takeH (i := 6) (d := 17) (v := ?_) rfl rfl (by kernel_rfl) (by kernel_rfl) (by kernel_rfl) (fun _ _ _ h => h) (Or.inl ⟨by kernel_rfl, ?_⟩) hS ?_; rotate_left 1; (focus ((intro w' hS'; clear hS'; go_simp; try with_reducible rfl); done))
      try simp only [List.setIfInBounds_toArray, List.set_cons_zero, List.set_cons_succ]
      refine takeH (i := 7) (d := 18) (v := ?_) rfl rfl (by kernel_rfl) (by kernel_rfl) (by kernel_rfl) (fun _ _ _ h => h) (Or.inl ⟨by kernel_rfl, ?_⟩) hS ?_; rotate_left 1; (focus ((intro w' hS'; clear hS'; go_simp; try with_reducible rfl); done))
      try simp only [List.setIfInBounds_toArray, List.set_cons_zero, List.set_cons_succ]
      refine takeH (i := 8) (d := 19) (v := ?_) rfl rfl (by kernel_rfl) (by kernel_rfl) (by kernel_rfl) (fun _ _ _ h => h) (Or.inl ⟨by kernel_rfl, ?_⟩) hS ?_; rotate_left 1; (focus ((intro w' hS'; clear hS'; go_simp; try with_reducible rfl); done))
      try simp only [List.setIfInBounds_toArray, List.set_cons_zero, List.set_cons_succ]
      refine takeH (i := 9) (d := 20) (v := ?_) rfl rfl (by kernel_rfl) (by kernel_rfl) (by kernel_rfl) (fun _ _ _ h => h) (Or.inl ⟨by kernel_rfl, ?_⟩) hS ?_; rotate_left 1; (focus ((intro w' hS'; clear hS'; go_simp; try with_reducible rfl); done))
      try simp only [List.setIfInBounds_toArray, List.set_cons_zero, List.set_cons_succ]
      refine takeH (i := 10) (d := 21) (v := ?_) rfl rfl (by kernel_rfl) (by kernel_rfl) (by kernel_rfl) (fun _ _ _ h => h) (Or.inl ⟨by kernel_rfl, ?_⟩) hS ?_; rotate_left 1; (focus ((intro w' hS'; obtain ⟨z0, z1, z2⟩ := HC.out w' hS'; clear hS'; go_simp; try with_reducible rfl); done))
      try simp only [List.setIfInBounds_toArray, List.set_cons_zero, List.set_cons_succ]
      refine takeH (i := 11) (d := 22) (v := ?_) rfl rfl (by kernel_rfl) (by kernel_rfl) (by kernel_rfl) (fun _ _ _ h => h) (Or.inl ⟨by kernel_rfl, ?_⟩) hS ?_; rotate_left 1; (focus ((intro w' hS'; clear hS'; go_simp; try with_reducible rfl); done))
      try simp only [List.setIfInBounds_toArray, List.set_cons_zero, List.set_cons_succ]
      refine takeH (i := 12) (d := 23) (v := ?_) rfl rfl (by kernel_rfl) (by kernel_rfl) (by kernel_rfl) (fun _ _ _ h => h) (Or.inl ⟨by kernel_rfl, ?_⟩) hS ?_; rotate_left 1; (focus ((intro w' hS'; clear hS'; go_simp; try with_reducible rfl); done))
      try simp only [List.setIfInBounds_toArray, List.set_cons_zero, List.set_cons_succ]
      refine takeH (i := 13) (d := 24) (v := ?_) rfl rfl (by kernel_rfl) (by kernel_rfl) (by kernel_rfl) (fun _ _ _ h => h) (Or.inl ⟨by kernel_rfl, ?_⟩) hS ?_; rotate_left 1; (focus ((intro w' hS'; clear hS'; go_simp; try with_reducible rfl); done))
      try simp only [List.setIfInBounds_toArray, List.set_cons_zero, List.set_cons_succ]
      refine takeH (i := 14) (d := 25) (v := ?_) rfl rfl (by kernel_rfl) (by kernel_rfl) (by kernel_rfl) (fun _ _ _ h => h) (Or.inl ⟨by kernel_rfl, ?_⟩) hS ?_; rotate_left 1; (focus ((intro w' hS'; clear hS'; go_simp; try with_reducible rfl); done))
      try simp only [List.setIfInBounds_toArray, List.set_cons_zero, List.set_cons_succ]
      refine takeH (i := 15) (d := 26) (v := ?_) rfl rfl (by kernel_rfl) (by kernel_rfl) (by kernel_rfl) (fun _ _ _ h => h) (Or.inl ⟨by kernel_rfl, ?_⟩) hS ?_; rotate_left 1; (focus ((intro w' hS'; clear hS'; go_simp; try with_reducible rfl); done))
      try simp only [List.setIfInBounds_toArray, List.set_cons_zero, List.set_cons_succ]
      refine takeH (i := 16) (d := 27) (v := ?_) rfl rfl (by kernel_rfl) (by kernel_rfl) (by kernel_rfl) (fun _ _ _ h => h) (Or.inl ⟨by kernel_rfl, ?_⟩) hS ?_; rotate_left 1; (focus ((intro w' hS'; obtain ⟨z0, z1, z2⟩ := HC.out w' hS'; clear hS'; go_simp; try with_reducible rfl); done))
      try simp only [List.setIfInBounds_toArray, List.set_cons_zero, List.set_cons_succ]
      refine takeH (i := 17) (d := 28) (v := ?_) rfl rfl (by kernel_rfl) (by kernel_rfl) (by kernel_rfl) (fun _ _ _ h => h) (Or.inl ⟨by kernel_rfl, ?_⟩) hS ?_; rotate_left 1; (focus ((intro w' hS'; clear hS'; go_simp; try with_reducible rfl); done))
      try simp only [List.setIfInBounds_toArray, List.set_cons_zero, List.set_cons_succ]
      refine wpAnyH_ready (rs := [18]) (by kernel_rfl) (by simp) ?_
      refine readyH_list rfl (fun K hK => ?_) AllReadyH.nil
      refine wpList_bs1 rfl 51 91 (.tmp 28) rfl #[.string s, .bool d, .string t] rfl _ 3 40 Tryd.underlying51 infoEnt rfl (by decide) (by decide) ?_
      intro w5 b5 h5 h6
      have N5 := bx (show w5.heap[b5]? = some (.cells (entR L j).toArray 91 (0, 0)) by rw [HCS.out, ← h5, ← h6]; exact blk_new _ _)
      have S5 := bx (show Below wr.heap.size wr w5 by rw [← h5]; exact ((Below.refl _ _).drew).alloc (by first | exact Nat.le_refl _ | simp) _)
      have B5 := bx (B.out.trans (S5.out.mono B.out.size))
      have O5 := bx (O.out.kept S5.out)
      clear h5 h6
      show wpList _ _ K [] (Act.put _ (some 29) _) w5
      refine hK.out _ _ ?_ (fun hS2 => ?_)
      · exact B5.out
      clear hK K hS; have hS := hS2; clear hS2
      try simp only [Act.put, List.setIfInBounds_toArray, List.set_cons_zero, List.set_cons_succ]
      refine wpAnyH_ready (rs := [19]) (by kernel_rfl) (by simp) ?_
      refine readyH_list rfl (fun K hK => ?_) AllReadyH.nil
      refine wpList_apR rfl (.tmp 11) (.tmp 29) 51 rfl w.heap.size 91 _ 3 40 Tryd.underlying51 infoEnt rfl (by decide) (by decide) _ j (entR L) rfl O5.out _ 1 rfl N5.out HCL.out H1.out (by omega) B5.out.size ?_
      intro v6 w6 h1 h2
      have K1 := bx h1
      have K2 := bx (h2 _ _ B5.out (Nat.le_refl _) B5.out.size)
      clear h1 h2
      show wpList _ _ K [] (Act.put _ (some 30) v6) w6
      refine hK.out _ _ ?_ (fun hS2 => ?_)
      · exact K2.out
      clear hK K hS; have hS := hS2; clear hS2
      try simp only [Act.put, List.setIfInBounds_toArray, List.set_cons_zero, List.set_cons_succ]
      refine takeH (i := 20) (d := 3) (v := ?_) rfl rfl (by kernel_rfl) (by kernel_rfl) (by kernel_rfl) (fun _ _ _ h => h) (Or.inl ⟨by kernel_rfl, ?_⟩) hS ?_; rotate_left 1; (focus ((intro w' hS'; clear hS'; go_simp; try with_reducible rfl); done))
      try simp only [List.setIfInBounds_toArray, List.set_cons_zero, List.set_cons_succ]
      refine wpAnyH_done (by kernel_rfl) ?_ _
      clear hS0 hS
      go_wp2_with fail
      go_roundw
      case rel => exact ⟨j + 1, by omega, by first | rfl | go_num, K1.out, K2.out⟩
      case measure => simp only [intOf]; omega
    · have hlt' : ¬ (j : Int) < n := by omega
      obtain rfl : j = n := by omega
      obtain ⟨A9, c9, rfl, hp9, hr9⟩ := O.out.rd fun _ _ => rfl
      have R9 := bx hr9; have P9 := bx hp9
      clear hr9 hp9
      go_wp2_with fail
      go_ret
      exact ⟨_, _, rfl, R9.out, P9.out, B.out⟩
end Go.Proofs.YthnommoljikaiaaDoor
