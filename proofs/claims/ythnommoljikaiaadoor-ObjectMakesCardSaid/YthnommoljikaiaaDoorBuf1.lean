/- Buffers of bytes that a call itself makes; append; bytes as a string. -/
import Derived.Test.YthnommoljikaiaaDoorSha6
import Derived.Test.YthnommoljikaiaaDoorAid3
import Derived.WalkKit
import Derived.Laws.AppendOwnNone
import Derived.Lib.SlBytesRow
import Derived.Lib.SliceRun
import Derived.Lib.SlBytesConst
import Derived.ArgAppend
set_option linter.unusedSimpArgs false
set_option linter.unusedVariables false
namespace Go.Proofs.YthnommoljikaiaaDoor
open Go.RowKit

/-- A slice of bytes that lies in a block of one's own (from 'base' on), or is nil. -/
def OwB (w : World) (base : Nat) (v : Value) (bs : List Int) : Prop := w.ownsRow base 5 1 v bs.length (bs.map (Value.int .u8))
theorem OwB.rd {w : World} {base : Nat} {v : Value} {bs : List Int} (h : OwB w base v bs) :
    ∃ A cap, v = .slice A bs.length cap ∧ RdB w A bs.length bs ∧ bs.length ≤ cap ∧ (A = none → cap = 0) ∧ (bs.length = 0 → True) := by
  obtain ⟨_, ⟨rfl, h0⟩ | ⟨g, cap, cur, rfl, hb, hg, hn, hm, hs, htk⟩⟩ := h
  · exact ⟨none, 0, by rw [h0], ⟨rfl, fun hn => absurd hn (by omega)⟩, by omega, fun _ => rfl, fun _ => trivial⟩
  · refine ⟨some ⟨g, 0, none⟩, cap, rfl, ⟨rfl, fun hn0 => ⟨g, 0, rfl, blk_lt hg, fun j hj => ?_⟩⟩, hn, fun h => (by cases h), fun _ => trivial⟩
    refine blk_cell hg ?_
    rw [Nat.mul_one] at htk
    have e : (cur.toList.take bs.length)[j]? = (bs.map (Value.int .u8))[j]? := by rw [htk]
    rw [List.getElem?_take_of_lt hj] at e
    rw [Nat.zero_add]
    rw [Array.getElem?_toList] at e
    rw [e]
    simp [List.getElem?_eq_getElem hj, List.getD_eq_getElem?_getD]
theorem OwB.rdn {w : World} {base n : Nat} {v : Value} {bs : List Int} (h : OwB w base v bs) (hn : bs.length = n) :
    ∃ A cap, v = .slice A n cap ∧ RdB w A n bs ∧ n ≤ cap ∧ (A = none → cap = 0) := by
  subst hn
  obtain ⟨A, cap, h1, h2, h3, h4, _⟩ := h.rd
  exact ⟨A, cap, h1, h2, h3, h4⟩
theorem outBytes_isB (st : List Int) : ∀ i, IsB (outBytes st i)
  | 0 => isB_zeros 32
  | i + 1 => (outBytes_isB st i).set i ⟨Int.emod_nonneg _ (by decide), Int.emod_lt_of_pos _ (by decide)⟩
theorem shaOf_isB (bs : List Int) : IsB (shaOf bs) := outBytes_isB _ _
theorem isB_nil : IsB [] := fun j => by simp
theorem isB_cons {x : Int} {a : List Int} (hx : 0 ≤ x ∧ x < 256) (ha : IsB a) : IsB (x :: a) := fun j => by
  cases j with
  | zero => simpa using hx
  | succ j => simpa using ha j
theorem OwB.base_le {w : World} {b b' : Nat} {v : Value} {bs : List Int} (h : OwB w b v bs) (hb : b' ≤ b) : OwB w b' v bs := by
  obtain ⟨h1, h2 | ⟨g, cap, cur, e, hg, h2⟩⟩ := h
  · exact ⟨h1, .inl h2⟩
  · exact ⟨h1, .inr ⟨g, cap, cur, e, by omega, h2⟩⟩
/-- Kept where nothing of it is written. -/
theorem OwB.kept {w w' : World} {base : Nat} {v : Value} {bs : List Int} (h : OwB w base v bs) (hb : Below w.heap.size w w') : OwB w' base v bs := by
  obtain ⟨h1, h2 | ⟨g, cap, cur, e, hg, hh, h2⟩⟩ := h
  · exact ⟨h1, .inl h2⟩
  · exact ⟨h1, .inr ⟨g, cap, cur, e, hg, (hb.block g (blk_lt hh)).trans hh, h2⟩⟩
theorem OwB.alloc {w : World} {base : Nat} {v : Value} {bs : List Int} (h : OwB w base v bs) (o : Obj) : OwB (w.alloc o) base v bs := World.ownsRow.alloc h o
theorem OwB.nil (w : World) (base : Nat) : OwB w base (.slice none 0 0) [] := World.ownsRow_nil _ _ _ _
theorem OwB.made (w : World) (base : Nat) (bs : List Int) (hb : base ≤ w.heap.size) (hm : bs.length ≤ maxLen) : OwB (w.alloc (.cells (ints .u8 bs) 5)) base (.slice (some ⟨w.heap.size, 0, none⟩) bs.length bs.length) bs :=
  ⟨by simp, .inr ⟨w.heap.size, bs.length, ints .u8 bs, rfl, hb, blk_new w _, Nat.le_refl _, hm, by rw [ints_size, Nat.mul_one], by rw [ints_toList, Nat.mul_one, List.take_of_length_le (by simp)]⟩⟩
theorem rdB_made (w : World) (T : TypeId) (bs : List Int) : RdB (w.alloc (.cells (ints .u8 bs) T)) (some ⟨w.heap.size, 0, none⟩) bs.length bs :=
  ⟨rfl, fun _ => ⟨_, 0, rfl, by simp, fun j hj => by rw [Nat.zero_add]; exact blk_int (blk_new w _) j hj⟩⟩
theorem OwB.lt {w : World} {base : Nat} {v : Value} {bs : List Int} (h : OwB w base v bs) : ∀ k, v.ownBlock = some k → base ≤ k ∧ k < w.heap.size := World.ownsRow.lt h
theorem OwB.below {w w' : World} {base B : Nat} {v : Value} {bs : List Int} (h : OwB w base v bs) (hg : w.grownBy w' v.ownBlock) {a : World} (ha : Below B a w) (hB : B ≤ base) (hs : B ≤ w.heap.size) : Below B a w' :=
  ha.grown hg hs fun k hk => by have := (h.lt k hk).1; omega

theorem eql_nil (w : World) (A : Option Addr) (n c : Nat) : (binOp .eql 41 (.slice A n c) (.slice none 0 0)).run Tryd.prog w = .ok (.bool A.isNone) w := Lib.run_eql_slice_nil w 41 5 A n c 0 0 Tryd.underlying41
theorem info8 : (Tryd.prog.info? 5).map (fun i => (i.zero, i.size, i.bytes)) = some (some (.int .u8 0), 1, 1) := by kernel_rfl
theorem at_call {P : Program} {ops : Array Oper} {rest : List Oper} {c : Call} {T : TypeId} {pos : String} {after : Array Edge} {gd : Option (Nat × Bool)} {a : Act} {w : World} {Q : Exit → Act → World → Prop} (d : Nat)
    (h : wpList P ops Q ({ dst := some d, op := .call c, type := T, pos := pos, after := after, guard := gd } :: rest) a w) : wpList P ops Q ({ dst := some d, op := .call c, type := T, pos := pos, after := after, guard := gd } :: rest) a w := h
/-- 'append(s, x...)': s a buffer of one's own, x any bytes. -/
theorem wpList_app {w : World} {ops : Array Oper} {rest : List Oper} {o : Oper} {a : Act} {Q : Exit → Act → World → Prop} (hgd : o.guard = none) (s x : Operand)
    (ho : o.op = .call { callee := .builtin .append, args := #[s, x], argTypes := #[41, 41] })
    (base : Nat) (v : Value) (bs : List Int) (hs : a.eval s = v) (hown : OwB w base v bs) (A : Option Addr) (m cap : Nat) (ds : List Int) (hx : a.eval x = .slice A m cap) (hrd : RdB w A m ds) (hnil : A = none → cap = 0)
    (hlen : bs.length + m ≤ 70368744177664) (hbase : base ≤ w.heap.size)
    (h : ∀ v' w', OwB w' base v' (bs ++ ds) → w.grownBy w' v.ownBlock → wpList Tryd.prog ops Q rest (a.put o.dst v') w') : wpList Tryd.prog ops Q (o :: rest) a w := by
  obtain ⟨i0, hi, hz0, hz1, hz2⟩ := info_parts info8
  have hdl := hrd.1
  cases A with
  | none =>
    have hm : m = 0 := by
      rcases Nat.eq_zero_or_pos m with h0 | h0
      · exact h0
      · obtain ⟨b, o, e, _⟩ := hrd.2 h0
        cases e
    subst hm
    have hds : ds = [] := List.eq_nil_of_length_eq_zero hdl
    subst hds
    rw [hnil rfl] at hx
    refine wpList_append_own_none hgd s x _ ho base _ i0 1 Tryd.underlying41 hi v _ _ hs hown hx (h v w ?_ ⟨rfl, rfl, rfl, Nat.le_refl _, fun _ _ _ => rfl⟩)
    rw [List.append_nil]
    exact hown
  | some ad =>
    refine wpList_append_own w hgd s x _ ho base 5 i0 (.int .u8 0) 1 1 Tryd.underlying41 hi hz0 hz1 hz2 rfl (by decide) v _ _ hs hown ad m cap (ds.map (Value.int .u8)) hx (by simpa using hdl) ?_ ?_ ?_ ?_ hbase ?_
    · intro j u hj
      obtain ⟨hj1, e⟩ := List.getElem?_eq_some_iff.1 hj
      have hj2 : j < m := by rw [← hdl]; simpa using hj1
      obtain ⟨b, o, e1, _, hc⟩ := hrd.2 (by omega)
      cases e1
      rw [Addr.add_mid, hc j hj2, ← e]
      simp [List.getD_eq_getElem?_getD, List.getElem?_eq_getElem (show j < ds.length by omega)]
    · intro u hu
      obtain ⟨x, _, rfl⟩ := List.mem_map.mp hu
      rfl
    · simp only [maxLen]; omega
    · omega
    · intro v' w' h1 h2 _
      refine h v' w' ?_ h2
      show World.ownsRow _ _ _ _ _ _ _
      rw [List.length_append, List.map_append, hdl]
      exact h1

/-- 'append(s, x...)' where s has no room: any bytes. -/
theorem wpList_appG {w : World} {ops : Array Oper} {rest : List Oper} {o : Oper} {a : Act} {Q : Exit → Act → World → Prop} (hgd : o.guard = none) (s x : Operand)
    (ho : o.op = .call { callee := .builtin .append, args := #[s, x], argTypes := #[41, 41] })
    (A : Option Addr) (n cap : Nat) (bs : List Int) (hs : a.eval s = .slice A n cap) (hrd : RdB w A n bs) (hnil : A = none → n = 0 ∧ cap = 0)
    (ad : Addr) (m c : Nat) (ds : List Int) (hx : a.eval x = .slice (some ad) m c) (hrd2 : RdB w (some ad) m ds) (hfull : cap < n + m)
    (hlen : n + m ≤ 70368744177664)
    (h : ∀ v' w', OwB w' w.heap.size v' (bs ++ ds) → w.grownBy w' none → wpList Tryd.prog ops Q rest (a.put o.dst v') w') : wpList Tryd.prog ops Q (o :: rest) a w := by
  obtain ⟨i0, hi, hz0, hz1, hz2⟩ := info_parts info8
  have h1 := hrd.1
  have h2 := hrd2.1
  refine wpList_append_grows w hgd s x _ ho 5 i0 (.int .u8 0) 1 1 Tryd.underlying41 hi hz0 hz1 hz2 rfl (by decide) A n cap (bs.map (Value.int .u8)) hs hnil (by simpa using h1) ?_ ad m c (ds.map (Value.int .u8)) hx (by simpa using h2) ?_ ?_ hfull ?_ ?_ ?_
  · intro b hb j u hj
    obtain ⟨hj1, e⟩ := List.getElem?_eq_some_iff.1 hj
    have hj2 : j < n := by rw [← h1]; simpa using hj1
    obtain ⟨b1, o1, e1, _, hc⟩ := hrd.2 (by omega)
    rw [hb] at e1
    cases e1
    rw [Addr.add_mid, hc j hj2, ← e]
    simp [List.getD_eq_getElem?_getD, List.getElem?_eq_getElem (show j < bs.length by omega)]
  · intro j u hj
    obtain ⟨hj1, e⟩ := List.getElem?_eq_some_iff.1 hj
    have hj2 : j < m := by rw [← h2]; simpa using hj1
    obtain ⟨b, o, e1, _, hc⟩ := hrd2.2 (by omega)
    cases e1
    rw [Addr.add_mid, hc j hj2, ← e]
    simp [List.getD_eq_getElem?_getD, List.getElem?_eq_getElem (show j < ds.length by omega)]
  · intro u hu
    obtain ⟨x, _, rfl⟩ := List.mem_map.mp hu
    rfl
  · simp only [maxLen]; omega
  · omega
  · intro v' w' k1 k2
    refine h v' w' ?_ k2
    show World.ownsRow _ _ _ _ _ _ _
    rw [List.length_append, List.map_append, h1, h2]
    exact k1
/-- The bytes of a constant, in their marked row. -/
theorem rdB_mark (w : World) (T : TypeId) (bs : List Int) (f : Nat × Nat) : RdB (w.alloc (.cells (ints .u8 bs) T f)) (some ⟨w.heap.size, 0, none⟩) bs.length bs :=
  ⟨rfl, fun _ => ⟨_, 0, rfl, by simp, fun j hj => by rw [Nat.zero_add]; exact blk_cell' (heap_alloc_new w _) (ints_get .u8 bs j hj)⟩⟩

/-- A part of what can be read. -/
theorem rdB_sub {w : World} {b o n : Nat} {bs : List Int} (l m : Nat) (h : RdB w (some ⟨b, o, none⟩) n bs) (hl : l + m ≤ n) : RdB w (some ⟨b, o + l, none⟩) m ((bs.drop l).take m) := by
  refine ⟨by rw [List.length_take, List.length_drop, h.1]; omega, fun hm => ?_⟩
  obtain ⟨b', o', e, hb, hc⟩ := h.2 (by omega)
  cases e
  refine ⟨b, o + l, rfl, hb, fun j hj => ?_⟩
  rw [Nat.add_assoc, hc (l + j) (by omega)]
  simp [List.getD_eq_getElem?_getD, List.getElem?_take, hj]
theorem rdB_take {w : World} {A : Option Addr} {n : Nat} {bs : List Int} (m : Nat) (h : RdB w A n bs) (hl : m ≤ n) : RdB w A m (bs.take m) := by
  refine ⟨by rw [List.length_take, h.1]; omega, fun hm => ?_⟩
  obtain ⟨b, o, e, hb, hc⟩ := h.2 (by omega)
  refine ⟨b, o, e, hb, fun j hj => ?_⟩
  rw [hc j (by omega)]
  simp [List.getD_eq_getElem?_getD, List.getElem?_take, hj]

/-! ### Bytes as a string -/
theorem str_of {w : World} {A : Option Addr} {n : Nat} {bs : List Int} (h : RdB w A n bs) (cap : Nat) :
    (convert 41 9 (.slice A n cap)).run Tryd.prog w = .ok (.string (strOfNums bs)) w := by
  obtain ⟨hl, h⟩ := h
  by_cases hn : 0 < n
  · obtain ⟨b, o, rfl, _, hc⟩ := h hn
    exact run_convert_bytes_arg w 41 5 Tryd.underlying41 Tryd.underlying5 b o n cap bs hl hc _ Tryd.underlying9
  · obtain rfl : n = 0 := by omega
    obtain rfl : bs = [] := List.eq_nil_of_length_eq_zero hl
    cases A with
    | none => exact run_convert_bytes_nil w 41 5 Tryd.underlying41 Tryd.underlying5 0 cap _ Tryd.underlying9
    | some a =>
      rw [run_convert_bytes_string w _ _ _ _ 0 cap Tryd.underlying41 Tryd.underlying5 Tryd.underlying9, run_bytesToString w a 0 cap [] (by simp [loadCells, loadCellsFrom])]
      rfl
theorem str_inj {a b : List Int} (ha : IsB a) (hb : IsB b) (h : strOfNums a = strOfNums b) : a = b := by
  have h1 : (a.map fun n => UInt8.ofNat n.toNat) = b.map fun n => UInt8.ofNat n.toNat := by rw [← strOfNums_data, ← strOfNums_data, h]
  have hlen : a.length = b.length := by simpa using congrArg List.length h1
  apply List.ext_getElem hlen
  intro j hj hj'
  have e : (a.map fun n => UInt8.ofNat n.toNat)[j]? = (b.map fun n => UInt8.ofNat n.toNat)[j]? := by rw [h1]
  have ea := ha j; have eb := hb j
  simp only [List.getElem?_map, List.getElem?_eq_getElem hj, List.getElem?_eq_getElem hj', Option.map_some, Option.some.injEq, List.getD_eq_getElem?_getD, Option.getD_some] at e ea eb
  have e2 := congrArg UInt8.toNat e
  simp only [UInt8.toNat_ofNat'] at e2
  omega
theorem str_ne {a b : List Int} (ha : IsB a) (hb : IsB b) : strOfNums a = strOfNums b ↔ a = b := ⟨str_inj ha hb, fun h => by rw [h]⟩
theorem str_dec {a b : List Int} (ha : IsB a) (hb : IsB b) : ((strOfNums a).toList == (strOfNums b).toList) = decide (a = b) := by
  rw [ByteArray.toList_eq, ByteArray.toList_eq]
  by_cases h : a = b
  · subst h; simp
  · have : ¬ (strOfNums a).data.toList = (strOfNums b).data.toList := fun e => h (str_inj ha hb (ByteArray.ext (Array.toList_inj.1 e)))
    rw [decide_eq_false h]
    exact beq_eq_false_iff_ne.2 this
/-- A value that reads as these bytes. -/
def BytesV (w : World) (v : Value) (xs : List Int) : Prop := ∃ A c, v = .slice A xs.length c ∧ RdB w A xs.length xs ∧ xs.length ≤ c ∧ (A = none → c = 0)
theorem bytesV_nil (w : World) : BytesV w (.slice none 0 0) [] := ⟨none, 0, rfl, ⟨rfl, fun h => absurd h (by decide)⟩, Nat.le_refl _, fun _ => rfl⟩
theorem BytesV.below {w w' : World} {v : Value} {xs : List Int} (h : BytesV w v xs) (hb : Below w.heap.size w w') : BytesV w' v xs := by
  obtain ⟨A, c, h1, h2, h3⟩ := h
  exact ⟨A, c, h1, h2.below hb, h3⟩
end Go.Proofs.YthnommoljikaiaaDoor
