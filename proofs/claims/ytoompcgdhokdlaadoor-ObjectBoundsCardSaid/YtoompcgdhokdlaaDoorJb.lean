/- Buffers of bytes that a call itself makes; append; bytes as a string. The walks over slices.Clone and wire.Put. The walk over wire.Put. Aids for a region that draws: one walk in the text's order, over a class of worlds. A region that draws: quiet operations over a class of worlds, then a last stretch (a store, an append) that waits for all of them. A region's step by a law over a list of operations: an append inside a region that draws. A region that draws: operations that are quiet in every world of a class that is closed under what only makes new blocks; one alloc that comes up wherever; then a last stretch. A region that draws, over a condition S that holds behind every operation but the last one (a store into a cell that the region loads). No program in it. Whole blocks: an array or struct that is loaded, or stored, as a whole. No program in it. Parts of a function's code: the sequence that begins with a region. No program in it. Maps keyed by whole numbers, whatever their elements: what a look-up, a store and a delete do. No program in it. wire.Sized, bytes.Equal. Worlds that differ in some blocks alone. The walks over a Reader of package wire: New, take, Num. A Reader of package wire, whatever became of it: take, Raw, Num, Wrong, Sized. errors.Is between two errors of the numbered kind. A Reader of package wire, whatever became of it: Num, Wrong, Sized; New. The document's Put and Sized; bytes of texts. Rows of structs that read, and of one's own that grow. -/
import Derived.Test.YtoompcgdhokdlaaDoorJa
import Derived.WalkKit
import Derived.Laws.AppendOwnNone
import Derived.Lib.SlBytesRow
import Derived.Lib.SliceRun
import Derived.Lib.SlBytesConst
import Derived.ArgAppend
import Derived.Deep.Quiet
import Derived.BigQuiet
import Derived.StillTail
import Derived.MapFrom
import Derived.ChangeMaps4
import Derived.Maps.OwnSet
import Derived.Laws.AppendOwn
import Derived.Laws.Bits64b
import Derived.LaidEql
import Derived.Stop.Asserts
import Derived.RowKitTokens
import Derived.ChangeKeysEq
import Derived.OwnWalk
import Derived.Great.BuildSlice
import Derived.Laws.OwnMore
set_option linter.unusedSimpArgs false
set_option linter.unusedVariables false
namespace Go.Proofs.YtoompcgdhokdlaaDoor
open Go.RowKit

/-- A slice of bytes that lies in a block of one's own (from 'base' on), or is nil. -/
def OwB (w : World) (base : Nat) (v : Value) (bs : List Int) : Prop := w.ownsRow base 5 1 v bs.length (bs.map (Value.int .u8))
theorem OwB.rd {w : World} {base : Nat} {v : Value} {bs : List Int} (h : OwB w base v bs) :
    ∃ A cap, v = .slice A bs.length cap ∧ RdB w A bs.length bs ∧ bs.length ≤ cap ∧ (A = none → cap = 0) ∧ (bs.length = 0 → True) := by
  obtain ⟨_, ⟨rfl, h0⟩ | ⟨g, cap, cur, rfl, hb, hg, hn, hm, hs, htk⟩⟩ := h
  · exact ⟨none, 0, by rw [h0], ⟨rfl, fun hn => absurd hn (by omega)⟩, by omega, fun _ => rfl, fun _ => trivial⟩
  · refine ⟨some ⟨g, 0, none⟩, cap, rfl, ⟨rfl, fun hn0 => ⟨g, 0, rfl, blk_lt hg, fun j hj => ?_⟩⟩, hn, fun h => (by cases h), fun _ => trivial⟩
    refine blk_cell hg ?_
    rw [Nat.mul_one] at htk
    have e : (cur.toList.take bs.length)[j]? = (bs.map (Value.int .u8))[j]? := by rw [htk]
    rw [List.getElem?_take_of_lt hj] at e
    rw [Nat.zero_add]
    rw [Array.getElem?_toList] at e
    rw [e]
    simp [List.getElem?_eq_getElem hj, List.getD_eq_getElem?_getD]
theorem OwB.rdn {w : World} {base n : Nat} {v : Value} {bs : List Int} (h : OwB w base v bs) (hn : bs.length = n) :
    ∃ A cap, v = .slice A n cap ∧ RdB w A n bs ∧ n ≤ cap ∧ (A = none → cap = 0) := by
  subst hn
  obtain ⟨A, cap, h1, h2, h3, h4, _⟩ := h.rd
  exact ⟨A, cap, h1, h2, h3, h4⟩
theorem outBytes_isB (st : List Int) : ∀ i, IsB (outBytes st i)
  | 0 => isB_zeros 32
  | i + 1 => (outBytes_isB st i).set i ⟨Int.emod_nonneg _ (by decide), Int.emod_lt_of_pos _ (by decide)⟩
theorem shaOf_isB (bs : List Int) : IsB (shaOf bs) := outBytes_isB _ _
theorem isB_nil : IsB [] := fun j => by simp
theorem isB_cons {x : Int} {a : List Int} (hx : 0 ≤ x ∧ x < 256) (ha : IsB a) : IsB (x :: a) := fun j => by
  cases j with
  | zero => simpa using hx
  | succ j => simpa using ha j
theorem OwB.base_le {w : World} {b b' : Nat} {v : Value} {bs : List Int} (h : OwB w b v bs) (hb : b' ≤ b) : OwB w b' v bs := by
  obtain ⟨h1, h2 | ⟨g, cap, cur, e, hg, h2⟩⟩ := h
  · exact ⟨h1, .inl h2⟩
  · exact ⟨h1, .inr ⟨g, cap, cur, e, by omega, h2⟩⟩
/-- Kept where nothing of it is written. -/
theorem OwB.kept {w w' : World} {base : Nat} {v : Value} {bs : List Int} (h : OwB w base v bs) (hb : Below w.heap.size w w') : OwB w' base v bs := by
  obtain ⟨h1, h2 | ⟨g, cap, cur, e, hg, hh, h2⟩⟩ := h
  · exact ⟨h1, .inl h2⟩
  · exact ⟨h1, .inr ⟨g, cap, cur, e, hg, (hb.block g (blk_lt hh)).trans hh, h2⟩⟩
theorem OwB.alloc {w : World} {base : Nat} {v : Value} {bs : List Int} (h : OwB w base v bs) (o : Obj) : OwB (w.alloc o) base v bs := World.ownsRow.alloc h o
theorem OwB.nil (w : World) (base : Nat) : OwB w base (.slice none 0 0) [] := World.ownsRow_nil _ _ _ _
theorem OwB.made (w : World) (base : Nat) (bs : List Int) (hb : base ≤ w.heap.size) (hm : bs.length ≤ maxLen) : OwB (w.alloc (.cells (ints .u8 bs) 5)) base (.slice (some ⟨w.heap.size, 0, none⟩) bs.length bs.length) bs :=
  ⟨by simp, .inr ⟨w.heap.size, bs.length, ints .u8 bs, rfl, hb, blk_new w _, Nat.le_refl _, hm, by rw [ints_size, Nat.mul_one], by rw [ints_toList, Nat.mul_one, List.take_of_length_le (by simp)]⟩⟩
theorem rdB_made (w : World) (T : TypeId) (bs : List Int) : RdB (w.alloc (.cells (ints .u8 bs) T)) (some ⟨w.heap.size, 0, none⟩) bs.length bs :=
  ⟨rfl, fun _ => ⟨_, 0, rfl, by simp, fun j hj => by rw [Nat.zero_add]; exact blk_int (blk_new w _) j hj⟩⟩
theorem OwB.lt {w : World} {base : Nat} {v : Value} {bs : List Int} (h : OwB w base v bs) : ∀ k, v.ownBlock = some k → base ≤ k ∧ k < w.heap.size := World.ownsRow.lt h
theorem OwB.below {w w' : World} {base B : Nat} {v : Value} {bs : List Int} (h : OwB w base v bs) (hg : w.grownBy w' v.ownBlock) {a : World} (ha : Below B a w) (hB : B ≤ base) (hs : B ≤ w.heap.size) : Below B a w' :=
  ha.grown hg hs fun k hk => by have := (h.lt k hk).1; omega

theorem eql_nil (w : World) (A : Option Addr) (n c : Nat) : (binOp .eql 33 (.slice A n c) (.slice none 0 0)).run Tryd.prog w = .ok (.bool A.isNone) w := Lib.run_eql_slice_nil w 33 5 A n c 0 0 Tryd.underlying33
theorem info8 : (Tryd.prog.info? 5).map (fun i => (i.zero, i.size, i.bytes)) = some (some (.int .u8 0), 1, 1) := by kernel_rfl
theorem at_call {P : Program} {ops : Array Oper} {rest : List Oper} {c : Call} {T : TypeId} {pos : String} {after : Array Edge} {gd : Option (Nat × Bool)} {a : Act} {w : World} {Q : Exit → Act → World → Prop} (d : Nat)
    (h : wpList P ops Q ({ dst := some d, op := .call c, type := T, pos := pos, after := after, guard := gd } :: rest) a w) : wpList P ops Q ({ dst := some d, op := .call c, type := T, pos := pos, after := after, guard := gd } :: rest) a w := h
/-- 'append(s, x...)': s a buffer of one's own, x any bytes. -/
theorem wpList_app {w : World} {ops : Array Oper} {rest : List Oper} {o : Oper} {a : Act} {Q : Exit → Act → World → Prop} (hgd : o.guard = none) (s x : Operand)
    (ho : o.op = .call { callee := .builtin .append, args := #[s, x], argTypes := #[33, 33] })
    (base : Nat) (v : Value) (bs : List Int) (hs : a.eval s = v) (hown : OwB w base v bs) (A : Option Addr) (m cap : Nat) (ds : List Int) (hx : a.eval x = .slice A m cap) (hrd : RdB w A m ds) (hnil : A = none → cap = 0)
    (hlen : bs.length + m ≤ 70368744177664) (hbase : base ≤ w.heap.size)
    (h : ∀ v' w', OwB w' base v' (bs ++ ds) → w.grownBy w' v.ownBlock → wpList Tryd.prog ops Q rest (a.put o.dst v') w') : wpList Tryd.prog ops Q (o :: rest) a w := by
  obtain ⟨i0, hi, hz0, hz1, hz2⟩ := info_parts info8
  have hdl := hrd.1
  cases A with
  | none =>
    have hm : m = 0 := by
      rcases Nat.eq_zero_or_pos m with h0 | h0
      · exact h0
      · obtain ⟨b, o, e, _⟩ := hrd.2 h0
        cases e
    subst hm
    have hds : ds = [] := List.eq_nil_of_length_eq_zero hdl
    subst hds
    rw [hnil rfl] at hx
    refine wpList_append_own_none hgd s x _ ho base _ i0 1 Tryd.underlying33 hi v _ _ hs hown hx (h v w ?_ ⟨rfl, rfl, rfl, Nat.le_refl _, fun _ _ _ => rfl⟩)
    rw [List.append_nil]
    exact hown
  | some ad =>
    refine wpList_append_own w hgd s x _ ho base 5 i0 (.int .u8 0) 1 1 Tryd.underlying33 hi hz0 hz1 hz2 rfl (by decide) v _ _ hs hown ad m cap (ds.map (Value.int .u8)) hx (by simpa using hdl) ?_ ?_ ?_ ?_ hbase ?_
    · intro j u hj
      obtain ⟨hj1, e⟩ := List.getElem?_eq_some_iff.1 hj
      have hj2 : j < m := by rw [← hdl]; simpa using hj1
      obtain ⟨b, o, e1, _, hc⟩ := hrd.2 (by omega)
      cases e1
      rw [Addr.add_mid, hc j hj2, ← e]
      simp [List.getD_eq_getElem?_getD, List.getElem?_eq_getElem (show j < ds.length by omega)]
    · intro u hu
      obtain ⟨x, _, rfl⟩ := List.mem_map.mp hu
      rfl
    · simp only [maxLen]; omega
    · omega
    · intro v' w' h1 h2 _
      refine h v' w' ?_ h2
      show World.ownsRow _ _ _ _ _ _ _
      rw [List.length_append, List.map_append, hdl]
      exact h1

/-- 'append(s, x...)' where s has no room: any bytes. -/
theorem wpList_appG {w : World} {ops : Array Oper} {rest : List Oper} {o : Oper} {a : Act} {Q : Exit → Act → World → Prop} (hgd : o.guard = none) (s x : Operand)
    (ho : o.op = .call { callee := .builtin .append, args := #[s, x], argTypes := #[33, 33] })
    (A : Option Addr) (n cap : Nat) (bs : List Int) (hs : a.eval s = .slice A n cap) (hrd : RdB w A n bs) (hnil : A = none → n = 0 ∧ cap = 0)
    (ad : Addr) (m c : Nat) (ds : List Int) (hx : a.eval x = .slice (some ad) m c) (hrd2 : RdB w (some ad) m ds) (hfull : cap < n + m)
    (hlen : n + m ≤ 70368744177664)
    (h : ∀ v' w', OwB w' w.heap.size v' (bs ++ ds) → w.grownBy w' none → wpList Tryd.prog ops Q rest (a.put o.dst v') w') : wpList Tryd.prog ops Q (o :: rest) a w := by
  obtain ⟨i0, hi, hz0, hz1, hz2⟩ := info_parts info8
  have h1 := hrd.1
  have h2 := hrd2.1
  refine wpList_append_grows w hgd s x _ ho 5 i0 (.int .u8 0) 1 1 Tryd.underlying33 hi hz0 hz1 hz2 rfl (by decide) A n cap (bs.map (Value.int .u8)) hs hnil (by simpa using h1) ?_ ad m c (ds.map (Value.int .u8)) hx (by simpa using h2) ?_ ?_ hfull ?_ ?_ ?_
  · intro b hb j u hj
    obtain ⟨hj1, e⟩ := List.getElem?_eq_some_iff.1 hj
    have hj2 : j < n := by rw [← h1]; simpa using hj1
    obtain ⟨b1, o1, e1, _, hc⟩ := hrd.2 (by omega)
    rw [hb] at e1
    cases e1
    rw [Addr.add_mid, hc j hj2, ← e]
    simp [List.getD_eq_getElem?_getD, List.getElem?_eq_getElem (show j < bs.length by omega)]
  · intro j u hj
    obtain ⟨hj1, e⟩ := List.getElem?_eq_some_iff.1 hj
    have hj2 : j < m := by rw [← h2]; simpa using hj1
    obtain ⟨b, o, e1, _, hc⟩ := hrd2.2 (by omega)
    cases e1
    rw [Addr.add_mid, hc j hj2, ← e]
    simp [List.getD_eq_getElem?_getD, List.getElem?_eq_getElem (show j < ds.length by omega)]
  · intro u hu
    obtain ⟨x, _, rfl⟩ := List.mem_map.mp hu
    rfl
  · simp only [maxLen]; omega
  · omega
  · intro v' w' k1 k2
    refine h v' w' ?_ k2
    show World.ownsRow _ _ _ _ _ _ _
    rw [List.length_append, List.map_append, h1, h2]
    exact k1
/-- The bytes of a constant, in their marked row. -/
theorem rdB_mark (w : World) (T : TypeId) (bs : List Int) (f : Nat × Nat) : RdB (w.alloc (.cells (ints .u8 bs) T f)) (some ⟨w.heap.size, 0, none⟩) bs.length bs :=
  ⟨rfl, fun _ => ⟨_, 0, rfl, by simp, fun j hj => by rw [Nat.zero_add]; exact blk_cell' (heap_alloc_new w _) (ints_get .u8 bs j hj)⟩⟩

/-- A part of what can be read. -/
theorem rdB_sub {w : World} {b o n : Nat} {bs : List Int} (l m : Nat) (h : RdB w (some ⟨b, o, none⟩) n bs) (hl : l + m ≤ n) : RdB w (some ⟨b, o + l, none⟩) m ((bs.drop l).take m) := by
  refine ⟨by rw [List.length_take, List.length_drop, h.1]; omega, fun hm => ?_⟩
  obtain ⟨b', o', e, hb, hc⟩ := h.2 (by omega)
  cases e
  refine ⟨b, o + l, rfl, hb, fun j hj => ?_⟩
  rw [Nat.add_assoc, hc (l + j) (by omega)]
  simp [List.getD_eq_getElem?_getD, List.getElem?_take, hj]
theorem rdB_take {w : World} {A : Option Addr} {n : Nat} {bs : List Int} (m : Nat) (h : RdB w A n bs) (hl : m ≤ n) : RdB w A m (bs.take m) := by
  refine ⟨by rw [List.length_take, h.1]; omega, fun hm => ?_⟩
  obtain ⟨b, o, e, hb, hc⟩ := h.2 (by omega)
  refine ⟨b, o, e, hb, fun j hj => ?_⟩
  rw [hc j (by omega)]
  simp [List.getD_eq_getElem?_getD, List.getElem?_take, hj]

/-! ### Bytes as a string -/
theorem str_of {w : World} {A : Option Addr} {n : Nat} {bs : List Int} (h : RdB w A n bs) (cap : Nat) :
    (convert 33 9 (.slice A n cap)).run Tryd.prog w = .ok (.string (strOfNums bs)) w := by
  obtain ⟨hl, h⟩ := h
  by_cases hn : 0 < n
  · obtain ⟨b, o, rfl, _, hc⟩ := h hn
    exact run_convert_bytes_arg w 33 5 Tryd.underlying33 Tryd.underlying5 b o n cap bs hl hc _ Tryd.underlying9
  · obtain rfl : n = 0 := by omega
    obtain rfl : bs = [] := List.eq_nil_of_length_eq_zero hl
    cases A with
    | none => exact run_convert_bytes_nil w 33 5 Tryd.underlying33 Tryd.underlying5 0 cap _ Tryd.underlying9
    | some a =>
      rw [run_convert_bytes_string w _ _ _ _ 0 cap Tryd.underlying33 Tryd.underlying5 Tryd.underlying9, run_bytesToString w a 0 cap [] (by simp [loadCells, loadCellsFrom])]
      rfl
theorem str_inj {a b : List Int} (ha : IsB a) (hb : IsB b) (h : strOfNums a = strOfNums b) : a = b := by
  have h1 : (a.map fun n => UInt8.ofNat n.toNat) = b.map fun n => UInt8.ofNat n.toNat := by rw [← strOfNums_data, ← strOfNums_data, h]
  have hlen : a.length = b.length := by simpa using congrArg List.length h1
  apply List.ext_getElem hlen
  intro j hj hj'
  have e : (a.map fun n => UInt8.ofNat n.toNat)[j]? = (b.map fun n => UInt8.ofNat n.toNat)[j]? := by rw [h1]
  have ea := ha j; have eb := hb j
  simp only [List.getElem?_map, List.getElem?_eq_getElem hj, List.getElem?_eq_getElem hj', Option.map_some, Option.some.injEq, List.getD_eq_getElem?_getD, Option.getD_some] at e ea eb
  have e2 := congrArg UInt8.toNat e
  simp only [UInt8.toNat_ofNat'] at e2
  omega
theorem str_ne {a b : List Int} (ha : IsB a) (hb : IsB b) : strOfNums a = strOfNums b ↔ a = b := ⟨str_inj ha hb, fun h => by rw [h]⟩
theorem str_dec {a b : List Int} (ha : IsB a) (hb : IsB b) : ((strOfNums a).toList == (strOfNums b).toList) = decide (a = b) := by
  rw [ByteArray.toList_eq, ByteArray.toList_eq]
  by_cases h : a = b
  · subst h; simp
  · have : ¬ (strOfNums a).data.toList = (strOfNums b).data.toList := fun e => h (str_inj ha hb (ByteArray.ext (Array.toList_inj.1 e)))
    rw [decide_eq_false h]
    exact beq_eq_false_iff_ne.2 this
/-- A value that reads as these bytes. -/
def BytesV (w : World) (v : Value) (xs : List Int) : Prop := ∃ A c, v = .slice A xs.length c ∧ RdB w A xs.length xs ∧ xs.length ≤ c ∧ (A = none → c = 0)
theorem bytesV_nil (w : World) : BytesV w (.slice none 0 0) [] := ⟨none, 0, rfl, ⟨rfl, fun h => absurd h (by decide)⟩, Nat.le_refl _, fun _ => rfl⟩
theorem BytesV.below {w w' : World} {v : Value} {xs : List Int} (h : BytesV w v xs) (hb : Below w.heap.size w w') : BytesV w' v xs := by
  obtain ⟨A, c, h1, h2, h3⟩ := h
  exact ⟨A, c, h1, h2.below hb, h3⟩
end Go.Proofs.YtoompcgdhokdlaaDoor

set_option linter.unusedSimpArgs false
set_option linter.unusedVariables false
namespace Go.Proofs.YtoompcgdhokdlaaDoor
open Go.RowKit

set_option maxRecDepth 100000 in
set_option maxHeartbeats 400000 in
theorem clone_any (A : Option Addr) (n cap : Nat) (bs : List Int) (w : World) (hrd : RdB w A n bs) (hnil : A = none → cap = 0) (hbig : n ≤ 35184372088832) :
    Calls Tryd.prog 57 #[.slice A n cap] w fun e w' => ∃ v, e = .returned v ∧ OwB w' w.heap.size v bs ∧ Below w.heap.size w w' := by
  have HRD := bx hrd; have HNIL := bx hnil
  clear hrd hnil
  cases A with
  | none =>
    have hn : n = 0 := by
      rcases Nat.eq_zero_or_pos n with h0 | h0
      · exact h0
      · obtain ⟨b, o, e, _⟩ := HRD.out.2 h0
        cases e
    subst hn
    have hbs : bs = [] := List.eq_nil_of_length_eq_zero HRD.out.1
    subst hbs
    have hE := fun w => eql_nil w none 0 cap
    go_enter Tryd.func57, Tryd.ntmps57
    go_wp2_with fail
    go_ret
    exact ⟨_, rfl, OwB.nil _ _, Below.refl _ _⟩
  | some ad =>
    have hE := fun w => eql_nil w (some ad) n cap
    have hm := OwB.made w w.heap.size [] (Nat.le_refl _) (by decide)
    have HM := bx hm; have H1 := bx (HRD.out.below ((Below.refl w.heap.size w).alloc (Nat.le_refl _) (.cells (ints .u8 []) 5)))
    clear hm
    go_enter Tryd.func57, Tryd.ntmps57
    go_wp2_with (first
      | ((with_reducible refine at_call 7 ?_); go_must (refine wpList_app rfl (.tmp 5) (.tmp 6) rfl w.heap.size _ [] rfl HM.out (some ad) n cap bs rfl H1.out HNIL.out (by simp; omega) (by simp) ?_; intro v' w' h1 h2; have K1 := bx h1; have K2 := bx h2; clear h1 h2)))
    go_ret
    exact ⟨_, rfl, K1.out, HM.out.below K2.out ((Below.refl w.heap.size w).alloc (Nat.le_refl _) (.cells (ints .u8 []) 5)) (Nat.le_refl _) (by simp)⟩
end Go.Proofs.YtoompcgdhokdlaaDoor

set_option linter.unusedSimpArgs false
set_option linter.unusedVariables false
namespace Go.Proofs.YtoompcgdhokdlaaDoor
open Go.RowKit

/-- The lowest k bytes of a number, the highest first. -/
def be (v : Int) : Nat → List Int
  | 0 => []
  | k + 1 => v / 2 ^ (8 * k) % 256 :: be v k
theorem be_length (v : Int) : ∀ k, (be v k).length = k
  | 0 => rfl
  | k + 1 => by rw [be, List.length_cons, be_length v k]
theorem be_isB (v : Int) : ∀ k, IsB (be v k)
  | 0 => fun j => by simp [be]
  | k + 1 => fun j => by
    cases j with
    | zero => simp only [be, List.getD_cons_zero]; omega
    | succ j => simp only [be, List.getD_cons_succ]; exact be_isB v k j
/-- What is laid so far: all but the last j bytes. -/
def beUp (v : Int) (m j : Nat) : List Int := (be v m).take (m - j)
theorem be_drop (v : Int) : ∀ (k d : Nat), (be v (d + k)).drop d = be v k
  | k, 0 => by simp
  | k, d + 1 => by rw [show d + 1 + k = (d + k) + 1 by omega, be, List.drop_succ_cons, be_drop v k d]
theorem beUp_zero (v : Int) (m : Nat) : beUp v m 0 = be v m := by rw [beUp, Nat.sub_zero, List.take_of_length_le (by rw [be_length]; omega)]
theorem beUp_all (v : Int) (m : Nat) : beUp v m m = [] := by simp [beUp]
theorem beUp_length (v : Int) (m j : Nat) (h : j ≤ m) : (beUp v m j).length = m - j := by rw [beUp, List.length_take, be_length]; omega
theorem beUp_step (v : Int) (m j : Nat) (h : j < m) : beUp v m (j + 1) ++ [v / 2 ^ (8 * j) % 256] = beUp v m j := by
  have e : (be v m)[m - (j + 1)]? = some (v / 2 ^ (8 * j) % 256) := by
    have h1 := be_drop v (j + 1) (m - (j + 1))
    rw [show m - (j + 1) + (j + 1) = m by omega] at h1
    have h2 : ((be v m).drop (m - (j + 1)))[0]? = some (v / 2 ^ (8 * j) % 256) := by rw [h1, be]; rfl
    simpa using h2
  rw [beUp, beUp, show m - j = m - (j + 1) + 1 by omega, List.take_add_one, e]
  rfl

set_option maxRecDepth 100000 in
set_option maxHeartbeats 800000 in
theorem wput_any (A : Option Addr) (n cap : Nat) (bs : List Int) (v : Int) (m : Nat) (w : World) (hrd : RdB w A n bs) (hnil : A = none → cap = 0) (hbig : n ≤ 17592186044416) (hm : m ≤ 8) :
    Calls Tryd.prog 30 #[.slice A n cap, .int .u64 v, .int .i64 m] w fun e w' => ∃ r, e = .returned r ∧ OwB w' w.heap.size r (bs ++ be v m) ∧ Below w.heap.size w w' := by
  have HRD := bx hrd; have HNIL := bx hnil
  clear hrd hnil
  have hmin : min (m : Int) 8 = m := by omega
  go_enter Tryd.func30, Tryd.ntmps30
  go_wp2_with fail
  refine (clone_any A n cap bs _ HRD.out HNIL.out (by omega)).mono ?_
  rintro e w1 ⟨r, rfl, ho, hb⟩
  have HO := bx ho; have B1 := bx hb
  clear ho hb
  go_wp2_with fail
  go_loopw [7, 8] (fun s i wr => ∃ j : Nat, j ≤ m ∧ i = .int .i64 ((j : Int) - 1) ∧ OwB wr w.heap.size s (bs ++ beUp v m j) ∧ Below w.heap.size w wr) (fun _ i _ => (intOf i + 1).toNat)
  case atStart => exact ⟨m, by omega, rfl, by rw [beUp_all, List.append_nil]; exact HO.out, B1.out⟩
  case round =>
    rename_i sl
    obtain ⟨j, hj, rfl, ho, hb⟩ := hrel
    have HO' := bx ho; have B := bx hb
    clear ho hb HO B1
    cases j with
    | zero =>
      go_wp2_with fail
      go_ret
      exact ⟨_, rfl, by have := HO'.out; rw [beUp_zero] at this; exact this, B.out⟩
    | succ k =>
      have e : (((k + 1 : Nat) : Int) - 1) = k := by omega
      rw [e]
      clear e
      have hx := bx (rdB_made wr 5 [v / 2 ^ (8 * k) % 256])
      have hlen : (bs ++ beUp v m (k + 1)).length + 1 ≤ 70368744177664 := by
        rw [List.length_append, beUp_length v m (k + 1) hj, HRD.out.1]
        omega
      have HL := bx hlen
      have B2 := bx (B.out.alloc B.out.size (.cells (ints .u8 [v / 2 ^ (8 * k) % 256]) 5))
      clear hlen
      go_wp2_with (first
        | ((with_reducible refine at_call 25 ?_); go_must (refine wpList_app rfl (.tmp 18) (.tmp 24) rfl w.heap.size _ (bs ++ beUp v m (k + 1)) rfl (HO'.out.alloc _) (some ⟨wr.heap.size, 0, none⟩) 1 1 [v / 2 ^ (8 * k) % 256] rfl hx.out (fun h => by cases h) HL.out B2.out.size ?_; intro v' w' h1 h2; have K1 := bx h1; have K2 := bx h2; clear h1 h2)))
      go_roundw
      case rel => exact ⟨k, by omega, rfl, by have := K1.out; rw [List.append_assoc, beUp_step v m k hj] at this; exact this, (HO'.out.alloc _).below K2.out B2.out (Nat.le_refl _) B2.out.size⟩
      case measure => simp [intOf]
end Go.Proofs.YtoompcgdhokdlaaDoor

set_option linter.unusedVariables false
namespace Go.Proofs.YtoompcgdhokdlaaDoor
open Go.RowKit

theorem region_quietC {P : Program} {id : Nat} {Q : Exit → Act → World → Prop} {a : Act} {w : World} {l : List Oper} (C : World → Prop) (hm : P.follows .mixedOrders = true) (hB : Region.lexB .any l.toArray = true) (hC : C w.drew)
    (h : wpQuiet P l.toArray C (fun a' => ∀ w', C w' → Q .normal a' w') l a) : (Code.region id l.toArray true).wp P Q a w :=
  wp_region_quiet hm hB hC (by simpa using h)
theorem quiet_take {P : Program} {ops : Array Oper} {C : World → Prop} {Q : Act → Prop} {a : Act} {o : Oper} {rest : List Oper} {v : Value} (d : Nat) (hd : o.dst = some d) (hw : Region.wanted o (yielded ops a.tmps) = true)
    (h : ∀ w', C w' → o.quietAt P a C w' v) (hr : wpQuiet P ops C Q rest { tmps := a.tmps.setIfInBounds d v, defers := a.defers }) : wpQuiet P ops C Q (o :: rest) a :=
  BigFrame.wpQuiet_want hw fun K hK => ⟨v, h, hK _ (by simpa [Act.put, hd] using hr)⟩
/-- A whole array or struct is loaded. -/
theorem quietAt_load_agg {P : Program} {o : Oper} {a : Act} {C : World → Prop} {w : World} (ty : TypeId) (x : Operand) (ho : o.op = .load ty x)
    (g off : Nat) (hx : a.eval x = .pointer (some ⟨g, off, none⟩)) (t : TypeId) (cs : Array Value) (n : Nat) (d : TypeDesc) (hg : w.heap[g]? = some (.cells cs t (0, 0)))
    (hu : P.underlying ty = some d) (hd : (match d with | .struct _ | .array _ _ => true | _ => false) = true) (hi : (P.info? ty).map (·.size) = some n) (hn : off + n ≤ cs.size)
    (vs : Array Value) (hv : cs.extract off (off + n) = vs) : o.quietAt P a C w (.agg vs) := by
  subst hv
  unfold Oper.quietAt execOp
  simp only [ho, hx, Instr.loadAt, Instr.sureAddr, Sem.run_bind, Sem.run_pure, Result.andThen_ok, run_loadVar_span w g off t ty cs n d hg hu hd hi hn]
  exact ⟨rfl, rfl⟩
theorem quiet_skip {P : Program} {ops : Array Oper} {C : World → Prop} {Q : Act → Prop} {a : Act} {o : Oper} {rest : List Oper} (d : Nat) (hd : o.dst = some d) (hw : Region.wanted o (yielded ops a.tmps) = false)
    (hr : wpQuiet P ops C Q rest { tmps := a.tmps.setIfInBounds d undef, defers := a.defers }) : wpQuiet P ops C Q (o :: rest) a :=
  BigFrame.wpQuiet_skip hw (by simpa [Act.put, hd] using hr)
end Go.Proofs.YtoompcgdhokdlaaDoor

set_option linter.unusedVariables false
namespace Go.Proofs.YtoompcgdhokdlaaDoor
open Go.RowKit

section
variable {P : Program} {ops : Array Oper} {md : Region.Mode} {C : World → Prop}
/-- Only operations ahead of n come up, each quiet in C, until L holds. -/
def Heads (P : Program) (md : Region.Mode) (ops : Array Oper) (C : World → Prop) (n : Nat) (L : Array Bool → Act → Prop) : Nat → Array Bool → Act → Prop
  | 0, seen, a => L seen a
  | f + 1, seen, a => Region.ready md ops seen ≠ [] ∧ ∀ i ∈ Region.ready md ops seen, i < n ∧ qOp P ops C i (Heads P md ops C n L f (seen.setIfInBounds i true)) a
theorem heads_any {n g : Nat} {L : Array Bool → Act → Prop} {Q : Exit → Act → World → Prop} (hL : ∀ seen a w, C w → L seen a → wpAny P md ops Q g seen a w) :
    ∀ (f : Nat) (seen : Array Bool) (a : Act) (w : World), C w → Heads P md ops C n L f seen a → wpAny P md ops Q (f + g) seen a w := by
  intro f
  induction f with
  | zero => intro seen a w hw h; rw [Nat.zero_add]; exact hL seen a w hw h
  | succ f ih =>
    intro seen a w hw h
    rw [show f + 1 + g = (f + g) + 1 by omega]
    exact ⟨fun h0 => absurd h0 h.1, fun i hi => wpOp_of_qOp hw (fun a' w' hw' h' => ih _ a' w' hw' h') (h.2 i hi).2⟩
theorem heads_first {n i : Nat} {oi : Oper} {v : Value} {L : Array Bool → Act → Prop} (hi : ops[i]? = some oi) (hsel : Region.noSelect ops = true) (hs : Region.sinkB md ops n = true) (hc : Region.chainB md ops n = true) (hn : n < ops.size) (hin : i < n)
    (hL : ∀ seen a, L seen a → ∀ j ∈ Region.ready md ops seen, n ≤ j) :
    ∀ (f : Nat) (seen : Array Bool) (a : Act), HeadInv md ops n seen →
      (∀ j oj, ops[j]? = some oj → j ≠ i → seen.getD j true = false → (∀ e ∈ oj.after, Region.binds md e = true → e.on ≠ i) → oi.apart ops oj = true) →
      i ∈ Region.ready md ops seen → YieldsIn P ops C oi v a → Heads P md ops C n L f (seen.setIfInBounds i true) (a.put oi.dst v) → Heads P md ops C n L (f + 1) seen a := by
  have sel := Region.noSelect_spec hsel
  intro f
  induction f with
  | zero =>
    intro seen a inv _ hr hy H
    have hun := (mem_ready.1 hr).1
    refine ⟨fun h => (by rw [h] at hr; cases hr), fun j hj => ?_⟩
    have hjn : j < n := Nat.lt_of_not_le fun h => tail_waits hs hc hn inv _ i rfl hin hun j h hj
    by_cases e : j = i
    · subst e; exact ⟨hjn, hy.qOp hi H⟩
    · have := hL _ _ H j (ready_mono hj e); omega
  | succ f ih =>
    intro seen a inv hfree hr hy H
    have hun := (mem_ready.1 hr).1
    refine ⟨fun h => (by rw [h] at hr; cases hr), fun j hj => ?_⟩
    have hjn : j < n := Nat.lt_of_not_le fun h => tail_waits hs hc hn inv _ i rfl hin hun j h hj
    refine ⟨hjn, ?_⟩
    by_cases e : j = i
    · subst e; exact hy.qOp hi H
    · obtain ⟨hjun, oj, hoj, hall⟩ := mem_ready.1 hj
      have hnot : ∀ e ∈ oj.after, Region.binds md e = true → e.on ≠ i := fun e he hb heq => by
        have := hall e he hb
        rw [heq, getD_both hun] at this
        cases this
      refine qOp_mono (fun a' h3 => ih _ a' (inv.set hj hjn) (fun k ok hk hki hku hno => hfree k ok hk hki ?_ hno) (ready_mono hr (Ne.symm e)) h3.1 ?_)
        (qOp_put hoj (hfree j oj hoj e hjun hnot) (fun cs b => sel i oi cs b hi) (fun cs b => sel j oj cs b hoj) hy (H.2 j (ready_mono hj e)).2)
      · by_cases hjk : j = k
        · subst hjk; exact hjun
        · rwa [getD_set_ne true hjk] at hku
      · rw [Array.setIfInBounds_comm _ _ e]
        exact h3.2
theorem heads_lex {n g : Nat} {K : Act → Prop} (hsel : Region.noSelect ops = true) (hs : Region.sinkB md ops n = true) (hc : Region.chainB md ops n = true) (hn : n < ops.size) :
    ∀ (l : List Oper) (k : Nat) (seen : Array Bool) (a : Act), (∀ j, j < l.length → l[j]? = ops[k + j]?) → k + l.length = n → HeadInv md ops n seen → Region.lexHead md ops g l.length k seen = true → wpQuiet P ops C K l a →
    Heads P md ops C n (fun seen' a' => Region.seqB md ops g n seen' = true ∧ K a') l.length seen a := by
  intro l
  induction l with
  | nil =>
    intro k seen a _ hk _ hB h
    obtain rfl : k = n := by simpa using hk
    exact ⟨by simpa [Region.lexHead] using hB, h⟩
  | cons o l ih =>
    intro k seen a hl hk inv hB h
    have h0 : ops[k]? = some o := by simpa using (hl 0 (by simp)).symm
    simp only [List.length_cons, Region.lexHead, Bool.and_eq_true] at hB
    have hkn : k < n := by simp only [List.length_cons] at hk; omega
    have hr : k ∈ Region.ready md ops seen := by simpa using hB.1.1
    obtain ⟨v, hy, hK⟩ := yieldsIn_of_qOp h0 (show qOp P ops C k (wpQuiet P ops C K l) a by unfold qOp; simp only [h0]; exact h)
    exact heads_first h0 hsel hs hc hn hkn (fun seen' a' hL => seqB_ready hL.1) l.length seen a inv (Region.free_spec h0 hB.1.2) hr hy
      (ih (k + 1) _ _ (fun j hj => by have := hl (j + 1) (by simp; omega); simpa [Nat.add_assoc, Nat.add_comm 1 j] using this) (by simp only [List.length_cons] at hk; omega) (inv.set hr hkn) hB.2 hK)
end
/-- n operations that are quiet in C, then the others, one behind the other. -/
theorem region_tailC {P : Program} {id : Nat} {Q : Exit → Act → World → Prop} {a : Act} {w : World} {l : List Oper} (C : World → Prop) (n : Nat) (hm : P.follows .mixedOrders = true) (hB : Region.lexTailB .any l.toArray n = true) (hC : C w.drew)
    (h : wpQuiet P l.toArray C (fun a' => ∀ w', C w' → wpList P l.toArray Q (l.drop n) a' w') (l.take n) a) : (Code.region id l.toArray true).wp P Q a w := by
  simp only [Region.lexTailB, Bool.and_eq_true, decide_eq_true_eq] at hB
  obtain ⟨⟨⟨⟨hsel, hn⟩, hs⟩, hc⟩, hlex⟩ := hB
  have hn' : n < l.length := by simpa using hn
  have htl : (l.take n).length = n := by simp; omega
  have inv0 : HeadInv .any l.toArray n (Array.replicate l.toArray.size false) :=
    ⟨by simp, fun j oj _ hl => (by rw [getD_replicate_false] at hl; cases hl), fun t _ ht => getD_in (by simpa using ht) (getD_replicate_false _ _)⟩
  have H := heads_lex (P := P) (md := .any) (C := C) (g := l.toArray.size - n) hsel hs hc hn (l.take n) 0 _ a (fun j hj => by rw [htl] at hj; simp [hj]) (by simpa using htl)
    inv0 (by rw [htl]; exact hlex) h
  refine wp_region_any hm ?_
  have H2 := heads_any (Q := Q) (g := l.toArray.size - n) (fun seen a' w' hw' hL => by
    have := wpAny_of_seq (md := .any) (Q' := Q) (l.drop n) n seen a' w' (fun j => by simp [List.getElem?_drop]) (by rw [show (l.drop n).length = l.toArray.size - n by simp]; exact hL.1) (hL.2 w' hw')
    rwa [show (l.drop n).length = l.toArray.size - n by simp] at this) _ _ _ _ hC H
  rw [htl, show n + (l.toArray.size - n) = l.toArray.size by omega] at H2
  exact H2
end Go.Proofs.YtoompcgdhokdlaaDoor

set_option linter.unusedVariables false
namespace Go.Proofs.YtoompcgdhokdlaaDoor
open Go.RowKit

/-- Behind the operation K, else Q. -/
def thenQ (K : Act → World → Prop) (Q : Exit → Act → World → Prop) : Exit → Act → World → Prop
  | .normal, a, w => K a w
  | e, a, w => Q e a w
theorem wp_thenQ {P : Program} {o : Oper} {a : Act} {w : World} {N K : Act → World → Prop} {Q : Exit → Act → World → Prop} (hh : o.wp P a w N (thenQ K Q)) : o.wp P a w N Q := by
  unfold Oper.wp at *
  generalize (execOp a.eval o).run P w = r at *
  cases r with
  | ok n w' =>
    cases n <;> simp only [Oper.upon] at hh ⊢ <;>
      first
        | exact hh
        | exact Calls.mono hh (fun e w'' he => by cases e <;> exact he)
  | halt x w' => cases x <;> simp only [Oper.upon] at hh ⊢ <;> exact hh
section
variable {P : Program} {ops : Array Oper} {Q : Exit → Act → World → Prop} {md : Region.Mode} {S : World → Prop}
theorem wpOp_ofList {i : Nat} {o : Oper} {K : Act → World → Prop} {a : Act} {w : World} (ho : ops[i]? = some o) (h : wpList P ops (thenQ K Q) [o] a w) : wpOp P ops Q i K a w := by
  unfold wpOp
  rw [ho]
  show if Region.wanted o (yielded ops a.tmps) = true then _ else _
  have h' : if Region.wanted o (yielded ops a.tmps) = true then (o.wp P a w K (thenQ K Q) ∨ (o.asks P a w ∧ LetsOut (thenQ K Q))) else K (a.put o.dst undef) w := h
  split
  · rename_i hw
    rw [if_pos hw] at h'
    exact h'.imp wp_thenQ id
  · rename_i hw
    rw [if_neg hw] at h'
    exact h'
theorem readyH_list {fuel : Nat} {listed : Array Bool} {a : Act} {w : World} {i : Nat} {o : Oper} {rs : List Nat} (ho : ops[i]? = some o)
    (h : ∀ Q' : Exit → Act → World → Prop, Shut (∀ a w, S w → (S w → wpAnyH P md ops Q S fuel (listed.setIfInBounds i true) a w) → wpList P ops Q' [] a w) → wpList P ops Q' [o] a w)
    (hs : AllReadyH P md ops Q S fuel listed a w rs) : AllReadyH P md ops Q S fuel listed a w (i :: rs) := fun j hj => by
  rcases List.mem_cons.1 hj with rfl | hj
  · exact wpOp_ofList ho (h _ (fun a w hS hW => ⟨hS, hW hS⟩))
  · exact hs j hj
end
end Go.Proofs.YtoompcgdhokdlaaDoor

set_option linter.unusedVariables false
namespace Go.Proofs.YtoompcgdhokdlaaDoor
open Go.RowKit

section
variable {P : Program} {ops : Array Oper} {md : Region.Mode} {C : World → Prop}
/-- What only makes new blocks. -/
abbrev Top (w w' : World) : Prop := Below w.heap.size w w'
/-- One value in every world of the class; old blocks stay. -/
def quietR (P : Program) (C : World → Prop) (o : Oper) (a : Act) (next : Act → Prop) : Prop := ∃ v, (∀ w, C w → o.quietAt P a (Top w) w v) ∧ next (a.put o.dst v)
def wpQuietR (P : Program) (ops : Array Oper) (C : World → Prop) (Q : Act → Prop) : List Oper → Act → Prop
  | [], a => Q a
  | o :: rest, a => if Region.wanted o (yielded ops a.tmps) then quietR P C o a (wpQuietR P ops C Q rest) else wpQuietR P ops C Q rest (a.put o.dst undef)
theorem quietR_nil {Q : Act → Prop} {a : Act} (h : Q a) : wpQuietR P ops C Q [] a := h
theorem quietR_take {Q : Act → Prop} {a : Act} {o : Oper} {rest : List Oper} {v : Value} (d : Nat) (hd : o.dst = some d) (hw : Region.wanted o (yielded ops a.tmps) = true)
    (h : ∀ w', C w' → o.quietAt P a (Top w') w' v) (hr : wpQuietR P ops C Q rest { tmps := a.tmps.setIfInBounds d v, defers := a.defers }) : wpQuietR P ops C Q (o :: rest) a := by
  unfold wpQuietR
  rw [if_pos hw]
  exact ⟨v, h, by simpa [Act.put, hd] using hr⟩
theorem quietR_skip {Q : Act → Prop} {a : Act} {o : Oper} {rest : List Oper} (d : Nat) (hd : o.dst = some d) (hw : Region.wanted o (yielded ops a.tmps) = false)
    (hr : wpQuietR P ops C Q rest { tmps := a.tmps.setIfInBounds d undef, defers := a.defers }) : wpQuietR P ops C Q (o :: rest) a := by
  unfold wpQuietR
  rw [if_neg (by simp [hw])]
  simpa [Act.put, hd] using hr
def rOp (P : Program) (ops : Array Oper) (C : World → Prop) (i : Nat) (K : Act → Prop) (a : Act) : Prop :=
  match ops[i]? with
  | none => K a
  | some o => if Region.wanted o (yielded ops a.tmps) then quietR P C o a K else K (a.put o.dst undef)
theorem rOp_mono {i : Nat} {a : Act} {K K' : Act → Prop} (h : ∀ a, K a → K' a) (hh : rOp P ops C i K a) : rOp P ops C i K' a := by
  unfold rOp at *
  split
  · exact h _ (by simpa [*] using hh)
  · rename_i o ho
    simp only [ho] at hh
    split
    · rename_i hw; simp only [hw, if_true] at hh; obtain ⟨v, h1, h2⟩ := hh; exact ⟨v, h1, h _ h2⟩
    · rename_i hw; simp only [hw] at hh; exact h _ hh
theorem wp_of_quietR {o : Oper} {a : Act} {K : Act → Prop} {K' : Act → World → Prop} {Q' : Exit → Act → World → Prop} {w : World} (hw : C w) (h : ∀ a w', Top w w' → K a → K' a w') (hh : quietR P C o a K) : o.wp P a w K' Q' := by
  obtain ⟨v, h1, h2⟩ := hh
  have h3 := h1 w hw
  unfold Oper.quietAt at h3
  unfold Oper.wp
  generalize (execOp a.eval o).run P w = r at *
  cases r with
  | ok n w' =>
    cases n <;> simp only [Oper.quietUpon] at h3 <;> simp only [Oper.upon]
    case value u =>
      obtain ⟨e1, e2⟩ := h3
      rw [e1, e2]
      exact h _ _ (Below.refl _ _) h2
    case skip =>
      obtain ⟨e1, e2⟩ := h3
      rw [e1, ← e2]
      exact h _ _ (Below.refl _ _) h2
    case enter f args =>
      obtain ⟨e1, hc⟩ := h3
      rw [e1]
      exact hc.mono fun e w'' ⟨he, hw''⟩ => by subst he; exact h _ _ hw'' h2
  | halt x w' => simp only [Oper.quietUpon] at h3
theorem wpOp_of_rOp {i : Nat} {a : Act} {K : Act → Prop} {K' : Act → World → Prop} {Q' : Exit → Act → World → Prop} {w : World} (hC : C w) (h : ∀ a w', Top w w' → K a → K' a w') (hh : rOp P ops C i K a) : wpOp P ops Q' i K' a w := by
  unfold rOp at hh
  unfold wpOp
  split
  · rename_i ho; simp only [ho] at hh; exact h _ _ (Below.refl _ _) hh
  · rename_i o ho
    simp only [ho] at hh
    split
    · rename_i hw; simp only [hw, if_true] at hh; exact .inl (wp_of_quietR hC h hh)
    · rename_i hw; simp only [hw] at hh; exact h _ _ (Below.refl _ _) hh
def YieldsR (P : Program) (ops : Array Oper) (C : World → Prop) (o : Oper) (v : Value) (a : Act) : Prop :=
  (Region.wanted o (yielded ops a.tmps) = true ∧ ∀ w, C w → o.quietAt P a (Top w) w v) ∨
  (Region.wanted o (yielded ops a.tmps) = false ∧ v = undef)
theorem YieldsR.rOp {i : Nat} {o : Oper} {v : Value} {a : Act} (hi : ops[i]? = some o) (hy : YieldsR P ops C o v a) {K : Act → Prop} (h : K (a.put o.dst v)) : rOp P ops C i K a := by
  unfold Go.Proofs.YtoompcgdhokdlaaDoor.rOp
  simp only [hi]
  rcases hy with ⟨hw, hv⟩ | ⟨hw, rfl⟩
  · simp only [hw, if_true]; exact ⟨v, hv, h⟩
  · simp only [hw, Bool.false_eq_true, if_false]; exact h
theorem YieldsR.of_same {o : Oper} {v : Value} {a a' : Act} (hy : YieldsR P ops C o v a) (he : execOp a'.eval o = execOp a.eval o)
    (hw : Region.wanted o (yielded ops a'.tmps) = Region.wanted o (yielded ops a.tmps)) : YieldsR P ops C o v a' := by
  unfold YieldsR Oper.quietAt at *
  rw [he, hw]
  exact hy
theorem yieldsR_of_rOp {i : Nat} {o : Oper} {a : Act} {K : Act → Prop} (hi : ops[i]? = some o) (h : rOp P ops C i K a) : ∃ v, YieldsR P ops C o v a ∧ K (a.put o.dst v) := by
  unfold rOp at h
  simp only [hi] at h
  by_cases hw : Region.wanted o (yielded ops a.tmps) = true
  · simp only [hw, if_true] at h
    obtain ⟨v, h1, h2⟩ := h
    exact ⟨v, .inl ⟨hw, h1⟩, h2⟩
  · simp only [hw] at h
    exact ⟨undef, .inr ⟨by simpa using hw, rfl⟩, h⟩
theorem rOp_put {j : Nat} {oi oj : Oper} {v : Value} (hj : ops[j]? = some oj) (hap : oi.apart ops oj = true)
    (hsi : ∀ cs b, oi.op ≠ .select cs b) (hsj : ∀ cs b, oj.op ≠ .select cs b) {K : Act → Prop} {a : Act}
    (hy : YieldsR P ops C oi v a) (h : rOp P ops C j K (a.put oi.dst v)) :
    rOp P ops C j (fun a' => YieldsR P ops C oi v a' ∧ K (a'.put oi.dst v)) a := by
  obtain ⟨h1, h2, h3⟩ := Oper.apart_spec hap
  have keep : ∀ (a : Act), YieldsR P ops C oi v a → ∀ u, YieldsR P ops C oi v (a.put oj.dst u) := fun a hy u =>
    hy.of_same (execOp_put oi hsi a oj.dst u h3) (wanted_put oi a oj.dst u h3)
  unfold rOp at *
  simp only [hj] at *
  rw [wanted_put oj a oi.dst v h1] at h
  split
  · rename_i hw
    simp only [hw, if_true] at h
    obtain ⟨u, hu, hn⟩ := h
    refine ⟨u, fun w hw' => ?_, keep a hy u, by rw [← Act.put_comm a v u h2]; exact hn⟩
    have := hu w hw'
    unfold Oper.quietAt at *
    rwa [execOp_put oj hsj a oi.dst v h1] at this
  · rename_i hw
    simp only [hw] at h
    exact ⟨keep a hy _, by rw [← Act.put_comm a v undef h2]; exact h⟩
/-- A step of an operation that is apart from another one's slot, which holds whatever. -/
theorem rOp_slot {j : Nat} {ok oj : Oper} {x : Value} (hj : ops[j]? = some oj) (hap : ok.apart ops oj = true) (hsj : ∀ cs b, oj.op ≠ .select cs b) {K : Act → Prop} {a : Act}
    (h : rOp P ops C j K a) : rOp P ops C j (fun a' => ∃ a0, a' = a0.put ok.dst x ∧ K a0) (a.put ok.dst x) := by
  obtain ⟨h1, h2, h3⟩ := Oper.apart_spec hap
  unfold rOp at *
  simp only [hj] at *
  rw [wanted_put oj a ok.dst x h1]
  split
  · rename_i hw
    simp only [hw, if_true] at h
    obtain ⟨u, hu, hn⟩ := h
    refine ⟨u, fun w hw' => ?_, _, Act.put_comm a x u h2, hn⟩
    have := hu w hw'
    unfold Oper.quietAt at *
    rwa [execOp_put oj hsj a ok.dst x h1]
  · rename_i hw
    simp only [hw] at h
    exact ⟨_, Act.put_comm a x undef h2, h⟩
/-- Only operations ahead of n come up, each quiet in C, until L holds. -/
def HeadsR (P : Program) (md : Region.Mode) (ops : Array Oper) (C : World → Prop) (n : Nat) (L : Array Bool → Act → Prop) : Nat → Array Bool → Act → Prop
  | 0, seen, a => L seen a
  | f + 1, seen, a => Region.ready md ops seen ≠ [] ∧ ∀ i ∈ Region.ready md ops seen, i < n ∧ rOp P ops C i (HeadsR P md ops C n L f (seen.setIfInBounds i true)) a
/-- Nothing behind the sink s (but k) comes up ahead of it. -/
structure InvK (md : Region.Mode) (ops : Array Oper) (s k : Nat) (seen : Array Bool) : Prop where
  size : seen.size = ops.size
  closed : ∀ j oj, ops[j]? = some oj → seen.getD j false = true → ∀ e ∈ oj.after, Region.binds md e = true → seen.getD e.on false = true
  tail : ∀ t, s < t → t ≠ k → t < ops.size → seen.getD t true = false
theorem InvK.set {s k i : Nat} {seen : Array Bool} (inv : InvK md ops s k seen) (hi : i ∈ Region.ready md ops seen) (hin : i ≤ s ∨ i = k) : InvK md ops s k (seen.setIfInBounds i true) := by
  obtain ⟨_, oi, hoi, hall⟩ := mem_ready.1 hi
  refine ⟨by simp [inv.size], fun j oj hj hl e he hb => ?_, fun t ht htk ht' => by rw [getD_set_ne true (by omega)]; exact inv.tail t ht htk ht'⟩
  by_cases hij : i = j
  · subst hij
    have : oj = oi := Option.some.inj (hj.symm.trans hoi)
    subst this
    exact getD_set_true (hall e he hb)
  · rw [getD_set_ne false hij] at hl
    exact getD_set_true (inv.closed j oj hj hl e he hb)
def lateB (md : Region.Mode) (ops : Array Oper) (s k : Nat) : Bool :=
  (List.range ops.size).all fun t => decide (t ≤ s) || (decide (t = k) || (List.range t).any fun j => decide (s ≤ j) && (!decide (j = k) && Region.waitsFor md ops t j))
theorem waits_unseen {t j : Nat} {seen : Array Bool} (h : Region.waitsFor md ops t j = true) (hun : seen.getD j false = false) : t ∉ Region.ready md ops seen := by
  intro hr
  obtain ⟨ot, hot, e, he, hb, hon⟩ := Region.waitsFor_spec h
  obtain ⟨_, ot', hot', hall⟩ := mem_ready.1 hr
  have : ot' = ot := Option.some.inj (hot'.symm.trans hot)
  subst this
  have := hall e he hb
  rw [hon, hun] at this
  cases this
theorem late_waits {s k : Nat} {seen : Array Bool} (hs : Region.sinkB md ops s = true) (hl : lateB md ops s k = true) (inv : InvK md ops s k seen) (hss : s < ops.size) :
    ∀ (d i : Nat), s - i = d → i ≤ s → seen.getD i true = false → ∀ t, s < t → t ≠ k → t ∉ Region.ready md ops seen := by
  intro d
  induction d using Nat.strongRecOn with
  | _ d ih =>
    intro i hd hi hun t ht htk
    by_cases his : i = s
    · subst his
      intro hr
      obtain ⟨_, ot, hot, _⟩ := mem_ready.1 hr
      have htlt : t < ops.size := (Array.getElem?_eq_some_iff.1 hot).1
      have h1 := List.all_eq_true.1 hl t (List.mem_range.2 htlt)
      simp only [Bool.or_eq_true, decide_eq_true_eq] at h1
      rcases h1 with h1 | h1 | h1
      · omega
      · exact htk h1
      · obtain ⟨j, hj, hj2⟩ := List.any_eq_true.1 h1
        have hjt := List.mem_range.1 hj
        simp only [Bool.and_eq_true, decide_eq_true_eq, Bool.not_eq_true', decide_eq_false_iff_not] at hj2
        refine waits_unseen hj2.2.2 ?_ hr
        by_cases hji : j = i
        · subst hji; exact getD_both hun
        · exact getD_both (inv.tail j (by omega) hj2.2.1 (by omega))
    · have h1 := List.all_eq_true.1 hs i (List.mem_range.2 (by omega))
      obtain ⟨j, hj, hj2⟩ := List.any_eq_true.1 h1
      simp only [Bool.and_eq_true, decide_eq_true_eq] at hj2
      have hjle : j ≤ s := by have := List.mem_range.1 hj; omega
      obtain ⟨oj, hoj, e, he, hb, hon⟩ := Region.waitsFor_spec hj2.2
      have hjun : seen.getD j false = false := by
        cases hl' : seen.getD j false with
        | false => rfl
        | true =>
          have h2 := inv.closed j oj hoj hl' e he hb
          rw [hon, getD_both hun] at h2
          cases h2
      exact ih (s - j) (by omega) j rfl hjle (getD_in (by rw [inv.size]; omega) hjun) t ht htk
theorem headsR_first {s k i : Nat} {oi : Oper} {v : Value} {L : Array Bool → Act → Prop} (hi : ops[i]? = some oi) (hsel : Region.noSelect ops = true) (hs : Region.sinkB md ops s = true) (hc : lateB md ops s k = true) (hn : s < ops.size) (hin : i ≤ s)
    (hL : ∀ seen a, L seen a → ∀ j ∈ Region.ready md ops seen, s < j) :
    ∀ (f : Nat) (seen : Array Bool) (a : Act), InvK md ops s k seen → seen.getD k true = true →
      (∀ j oj, ops[j]? = some oj → j ≠ i → seen.getD j true = false → (∀ e ∈ oj.after, Region.binds md e = true → e.on ≠ i) → oi.apart ops oj = true) →
      i ∈ Region.ready md ops seen → YieldsR P ops C oi v a → HeadsR P md ops C (s + 1) L f (seen.setIfInBounds i true) (a.put oi.dst v) → HeadsR P md ops C (s + 1) L (f + 1) seen a := by
  have sel := Region.noSelect_spec hsel
  have below : ∀ (seen : Array Bool), InvK md ops s k seen → seen.getD k true = true → i ∈ Region.ready md ops seen → ∀ j ∈ Region.ready md ops seen, j < s + 1 := by
    intro seen inv hk hr j hj
    have hun := (mem_ready.1 hr).1
    have hjk : j ≠ k := fun e => by have := (mem_ready.1 hj).1; rw [e, hk] at this; cases this
    exact Nat.lt_of_not_le fun h => late_waits hs hc inv hn _ i rfl hin hun j (by omega) hjk hj
  intro f
  induction f with
  | zero =>
    intro seen a inv hk _ hr hy H
    refine ⟨fun h => (by rw [h] at hr; cases hr), fun j hj => ?_⟩
    have hjn := below seen inv hk hr j hj
    by_cases e : j = i
    · subst e; exact ⟨hjn, hy.rOp hi H⟩
    · have := hL _ _ H j (ready_mono hj e); omega
  | succ f ih =>
    intro seen a inv hk hfree hr hy H
    refine ⟨fun h => (by rw [h] at hr; cases hr), fun j hj => ?_⟩
    have hjn := below seen inv hk hr j hj
    refine ⟨hjn, ?_⟩
    by_cases e : j = i
    · subst e; exact hy.rOp hi H
    · obtain ⟨hjun, oj, hoj, hall⟩ := mem_ready.1 hj
      have hun := (mem_ready.1 hr).1
      have hjk : j ≠ k := fun e => by rw [e, hk] at hjun; cases hjun
      have hnot : ∀ e ∈ oj.after, Region.binds md e = true → e.on ≠ i := fun e he hb heq => by
        have := hall e he hb
        rw [heq, getD_both hun] at this
        cases this
      refine rOp_mono (fun a' h3 => ih _ a' (inv.set hj (.inl (by omega))) (by rw [getD_set_ne true hjk]; exact hk) (fun k' ok hk' hki hku hno => hfree k' ok hk' hki ?_ hno) (ready_mono hr (Ne.symm e)) h3.1 ?_)
        (rOp_put hoj (hfree j oj hoj e hjun hnot) (fun cs b => sel i oi cs b hi) (fun cs b => sel j oj cs b hoj) hy (H.2 j (ready_mono hj e)).2)
      · by_cases hjk' : j = k'
        · subst hjk'; exact hjun
        · rwa [getD_set_ne true hjk'] at hku
      · rw [Array.setIfInBounds_comm _ _ e]
        exact h3.2
/-- The late operations (their values lean on no world), from j on; then the last stretch from n on. -/
def lexL (md : Region.Mode) (ops : Array Oper) (n g k : Nat) : Nat → Nat → Array Bool → Bool
  | 0, _, seen => (Region.ready md ops seen == [k]) && Region.seqB md ops g n (seen.setIfInBounds k true)
  | f + 1, j, seen => (Region.ready md ops seen).contains j && (Region.free md ops seen j && ((Region.ready md ops (seen.setIfInBounds k true)).contains j && (Region.free md ops (seen.setIfInBounds k true) j && lexL md ops n g k f (j + 1) (seen.setIfInBounds j true))))
/-- The quiet operations in their order, from j on; then the late ones. -/
def lexA (md : Region.Mode) (ops : Array Oper) (n g k late : Nat) : Nat → Nat → Array Bool → Bool
  | 0, j, seen => ((Region.ready md ops (seen.setIfInBounds k true)).all fun i => decide (j ≤ i)) && lexL md ops n g k late j seen
  | f + 1, j, seen => (Region.ready md ops (seen.setIfInBounds k true)).contains j && Region.free md ops (seen.setIfInBounds k true) j && lexA md ops n g k late f (j + 1) (seen.setIfInBounds j true)
def wpPure (P : Program) (ops : Array Oper) (K : Act → Prop) : List Oper → Act → Prop
  | [], a => K a
  | o :: rest, a => ∃ v, Yields P ops o v a ∧ wpPure P ops K rest (a.put o.dst v)
theorem set_inj {seen seen0 : Array Bool} {k : Nat} (h : seen.setIfInBounds k true = seen0.setIfInBounds k true) (h1 : seen.getD k true = false) (h0 : seen0.getD k true = false) : seen = seen0 := by
  have hz : seen.size = seen0.size := by have := congrArg Array.size h; simpa using this
  apply Array.ext_getElem?
  intro j
  by_cases e : k = j
  · subst e
    have k1 : k < seen.size := by
      rcases Nat.lt_or_ge k seen.size with h' | h'
      · exact h'
      · simp [Array.getElem?_eq_none h'] at h1
    have k0 : k < seen0.size := by omega
    simp [k1] at h1
    simp [k0] at h0
    simp [k1, k0, h1, h0]
  · have := congrArg (fun x => x[j]?) h
    simpa [Array.getElem?_setIfInBounds_ne e] using this
theorem getD_self {seen : Array Bool} {k : Nat} : (seen.setIfInBounds k true).getD k true = true := by
  simp only [Array.getD_eq_getD_getElem?, Array.getElem?_setIfInBounds]
  split
  · split <;> simp_all
  · simp_all
theorem headsR_lex {s k m late n g : Nat} {K : Act → Prop} (hsel : Region.noSelect ops = true) (hs : Region.sinkB md ops s = true) (hc : lateB md ops s k = true) (hn : s < ops.size) (hsk : s < k) (hm : m = s + 1) :
    ∀ (l : List Oper) (j : Nat) (seen : Array Bool) (a : Act), (∀ i, i < l.length → l[i]? = ops[j + i]?) → j + l.length = m → InvK md ops s k (seen.setIfInBounds k true) → seen.getD k true = false →
    lexA md ops n g k late l.length j seen = true → wpQuietR P ops C K l a →
    HeadsR P md ops C (s + 1) (fun seen' a' => (∃ seen0, seen0.getD k true = false ∧ seen' = seen0.setIfInBounds k true ∧ lexL md ops n g k late m seen0 = true ∧ K a') ∧ ∀ i ∈ Region.ready md ops seen', m ≤ i) l.length (seen.setIfInBounds k true) a := by
  intro l
  induction l with
  | nil =>
    intro j seen a _ hj inv hk hB h
    obtain rfl : j = m := by simpa using hj
    simp only [List.length_nil, lexA, Bool.and_eq_true] at hB
    exact ⟨⟨seen, hk, rfl, hB.2, h⟩, fun i hi => by simpa using List.all_eq_true.1 hB.1 i hi⟩
  | cons o l ih =>
    intro j seen a hl hj inv hk hB h
    have h0 : ops[j]? = some o := by simpa using (hl 0 (by simp)).symm
    simp only [List.length_cons, lexA, Bool.and_eq_true] at hB
    have hjs : j ≤ s := by simp only [List.length_cons] at hj; omega
    have hjk : j ≠ k := by omega
    have hr : j ∈ Region.ready md ops (seen.setIfInBounds k true) := by simpa using hB.1.1
    obtain ⟨v, hy, hK⟩ := yieldsR_of_rOp h0 (show rOp P ops C j (wpQuietR P ops C K l) a by unfold rOp; simp only [h0]; exact h)
    refine headsR_first h0 hsel hs hc hn hjs (fun seen' a' hL i hi => by have := hL.2 i hi; omega) l.length _ a inv getD_self (Region.free_spec h0 hB.1.2) hr hy ?_
    · have := ih (j + 1) (seen.setIfInBounds j true) _ (fun i hi => by have := hl (i + 1) (by simp; omega); simpa [Nat.add_assoc, Nat.add_comm 1 i] using this) (by simp only [List.length_cons] at hj; omega)
        (by rw [Array.setIfInBounds_comm _ _ hjk]; exact inv.set hr (.inl hjs)) (by rw [getD_set_ne true hjk]; exact hk) hB.2 hK
      rwa [Array.setIfInBounds_comm _ _ hjk] at this
theorem panic_put {Q : Exit → Act → World → Prop} (hQ : ∀ (d : Tmp) (v : Value) c (a : Act) (w : World), Q (.panic c) { tmps := a.tmps.setIfInBounds d v, defers := a.defers } w → Q (.panic c) a w) (d : Option Tmp) (v : Value) : ∀ c (a : Act) (w : World), Q (.panic c) (a.put d v) w → Q (.panic c) a w := by
  intro c a w h
  cases d with
  | none => exact h
  | some d => exact hQ d v c a w h
/-- The late operations and the last stretch, the alloc being done. -/
theorem late_in {n g k b : Nat} {ok : Oper} {K : Act → Prop} {Q : Exit → Act → World → Prop} (hsel : Region.noSelect ops = true) (hQ : ∀ (d : Tmp) (v : Value) c (a : Act) (w : World), Q (.panic c) { tmps := a.tmps.setIfInBounds d v, defers := a.defers } w → Q (.panic c) a w)
    (hap : ∀ (j : Nat) oj, ops[j]? = some oj → j < k → ok.apart ops oj = true) {tl : List Oper} (htl : ∀ j, tl[j]? = ops[n + j]?) (hg : tl.length = g) {w : World}
    (hK : ∀ a, K a → wpList P ops Q tl (a.put ok.dst (.pointer (some ⟨b, 0, none⟩))) w) :
    ∀ (l : List Oper) (j : Nat) (seen : Array Bool) (a : Act), (∀ i, i < l.length → l[i]? = ops[j + i]?) → j + l.length ≤ k → lexL md ops n g k l.length j seen = true → wpPure P ops K l a →
    wpAny P md ops Q (l.length + g) (seen.setIfInBounds k true) (a.put ok.dst (.pointer (some ⟨b, 0, none⟩))) w := by
  intro l
  induction l with
  | nil =>
    intro j seen a _ _ hB h
    simp only [List.length_nil, lexL, Bool.and_eq_true] at hB
    rw [List.length_nil, Nat.zero_add, ← hg]
    exact wpAny_of_seq tl n _ _ _ htl (by rw [hg]; exact hB.2) (hK a h)
  | cons o l ih =>
    intro j seen a hl hj hB h
    have h0 : ops[j]? = some o := by simpa using (hl 0 (by simp)).symm
    simp only [List.length_cons, lexL, Bool.and_eq_true] at hB
    obtain ⟨_, _, hr, hf, hB'⟩ := hB
    obtain ⟨v, hy, hK'⟩ := h
    simp only [List.length_cons] at hj
    have hjk : j ≠ k := by omega
    obtain ⟨a1, a2, a3⟩ := Oper.apart_spec (hap j o h0 (by omega))
    have sel := Region.noSelect_spec hsel
    have hy' : Yields P ops o v (a.put ok.dst (.pointer (some ⟨b, 0, none⟩))) := hy.of_same (execOp_put o (fun cs c => sel j o cs c h0) a _ _ a1) (wanted_put o a _ _ a1)
    rw [show (o :: l).length + g = (l.length + g) + 1 by simp; omega]
    refine wpAny_take h0 hsel hf hr (panic_put hQ _ _) hy' ?_
    rw [← Act.put_comm a v (.pointer (some ⟨b, 0, none⟩)) (fun d hd e => a2 d e hd), Array.setIfInBounds_comm _ _ (Ne.symm hjk)]
    exact ih (j + 1) _ _ (fun i hi => by have := hl (i + 1) (by simp; omega); simpa [Nat.add_assoc, Nat.add_comm 1 i] using this) (by omega) hB' hK'
/-- The same, the alloc being to come. -/
theorem late_out {N n g k : Nat} {ok : Oper} {o : Obj} {K : Act → Prop} {Q : Exit → Act → World → Prop} (hsel : Region.noSelect ops = true) (hQ : ∀ (d : Tmp) (v : Value) c (a : Act) (w : World), Q (.panic c) { tmps := a.tmps.setIfInBounds d v, defers := a.defers } w → Q (.panic c) a w)
    (hap : ∀ (j : Nat) oj, ops[j]? = some oj → j < k → ok.apart ops oj = true) {tl : List Oper} (htl : ∀ j, tl[j]? = ops[n + j]?) (hg : tl.length = g) {w : World} (hN : N ≤ w.heap.size) (hCA : C (w.alloc o)) (hk0 : ops[k]? = some ok)
    (hgd : ok.guard = none) (hrun : ∀ (a : Act) w, (execOp a.eval ok).run P w = .ok (.value (.pointer (some ⟨w.heap.size, 0, none⟩))) (w.alloc o))
    (hK : ∀ a, K a → ∀ b w, N ≤ b → C w → w.heap[b]? = some o → wpList P ops Q tl (a.put ok.dst (.pointer (some ⟨b, 0, none⟩))) w) :
    ∀ (l : List Oper) (j : Nat) (seen : Array Bool) (a : Act), (∀ i, i < l.length → l[i]? = ops[j + i]?) → j + l.length ≤ k → lexL md ops n g k l.length j seen = true → wpPure P ops K l a →
    wpAny P md ops Q (l.length + g + 1) seen a w := by
  intro l
  induction l with
  | nil =>
    intro j seen a _ _ hB h
    simp only [List.length_nil, lexL, Bool.and_eq_true, beq_iff_eq] at hB
    rw [List.length_nil, Nat.zero_add]
    refine ⟨fun h0 => (by rw [h0] at hB; cases hB.1), fun i hi => ?_⟩
    rw [hB.1] at hi
    obtain rfl : i = k := by simpa using hi
    unfold wpOp
    simp only [hk0]
    rw [if_pos (by simp [Region.wanted, hgd])]
    refine .inl ?_
    unfold Oper.wp
    rw [hrun]
    simp only [Oper.upon]
    rw [← hg]
    exact wpAny_of_seq tl n _ _ _ htl (by rw [hg]; exact hB.2) (hK a h w.heap.size _ hN hCA (heap_alloc_new w o))
  | cons oj l ih =>
    intro j seen a hl hj hB h
    have h0 : ops[j]? = some oj := by simpa using (hl 0 (by simp)).symm
    simp only [List.length_cons, lexL, Bool.and_eq_true] at hB
    obtain ⟨hr, hf, _, _, hB'⟩ := hB
    obtain ⟨v, hy, hK'⟩ := h
    simp only [List.length_cons] at hj
    rw [show (oj :: l).length + g + 1 = (l.length + g + 1) + 1 by simp; omega]
    refine wpAny_take h0 hsel hf hr (panic_put hQ _ _) hy ?_
    exact ih (j + 1) _ _ (fun i hi => by have := hl (i + 1) (by simp; omega); simpa [Nat.add_assoc, Nat.add_comm 1 i] using this) (by omega) hB' hK'
/-- The alloc has come up: its block is b. -/
theorem headsR_in {m g k : Nat} {ok : Oper} {L : Array Bool → Act → Prop} {Q : Exit → Act → World → Prop} {b : Nat} {o : Obj}
    (hap : ∀ (j : Nat) oj, ops[j]? = some oj → j < k → ok.apart ops oj = true) (hmk : m ≤ k) (hsel : Region.noSelect ops = true) (hC : ∀ w w', C w → Top w w' → C w')
    (hL : ∀ seen a w, C w → w.heap[b]? = some o → L seen a → wpAny P md ops Q g seen (a.put ok.dst (.pointer (some ⟨b, 0, none⟩))) w) :
    ∀ (f : Nat) (seen : Array Bool) (a : Act) (w : World), seen.getD k true = true → C w → w.heap[b]? = some o → HeadsR P md ops C m L f seen a → wpAny P md ops Q (f + g) seen (a.put ok.dst (.pointer (some ⟨b, 0, none⟩))) w := by
  intro f
  induction f with
  | zero => intro seen a w _ hw hb h; rw [Nat.zero_add]; exact hL seen a w hw hb h
  | succ f ih =>
    intro seen a w hk hw hb h
    rw [show f + 1 + g = (f + g) + 1 by omega]
    refine ⟨fun h0 => absurd h0 h.1, fun i hi => ?_⟩
    obtain ⟨hin, hop⟩ := h.2 i hi
    obtain ⟨hun, oi, hoi, _⟩ := mem_ready.1 hi
    have hik : i ≠ k := fun e => by rw [e] at hun; rw [hun] at hk; cases hk
    refine wpOp_of_rOp hw (fun a' w' ht ⟨a0, e, h3⟩ => ?_) (rOp_slot (x := .pointer (some ⟨b, 0, none⟩)) hoi (hap i oi hoi (by omega)) (fun cs c => Region.noSelect_spec hsel i oi cs c hoi) hop)
    rw [e]
    exact ih _ a0 w' (by rw [getD_set_ne true hik]; exact hk) (hC w w' hw ht) ((ht.block b (blk_lt hb)).trans hb) h3
/-- It has not. -/
theorem headsR_out {N s g k : Nat} {ok : Oper} {L : Array Bool → Act → Prop} {Q : Exit → Act → World → Prop} {o : Obj} (hk0 : ops[k]? = some ok) (hsk : s < k) (hs : Region.sinkB md ops s = true) (hc : lateB md ops s k = true) (hn : s < ops.size)
    (hap : ∀ (j : Nat) oj, ops[j]? = some oj → j < k → ok.apart ops oj = true) (hsel : Region.noSelect ops = true) (hC : ∀ w w', C w → Top w w' → C w') (hN : ∀ w, C w → N ≤ w.heap.size) (hre : ok.after = #[])
    (hg : ok.guard = none) (hrun : ∀ (a : Act) w, (execOp a.eval ok).run P w = .ok (.value (.pointer (some ⟨w.heap.size, 0, none⟩))) (w.alloc o))
    (hL : ∀ b seen a w, N ≤ b → C w → w.heap[b]? = some o → L seen a → wpAny P md ops Q g seen (a.put ok.dst (.pointer (some ⟨b, 0, none⟩))) w)
    (hO : ∀ seen a w, seen.getD k true = false → C w → L (seen.setIfInBounds k true) a → wpAny P md ops Q (g + 1) seen a w) :
    ∀ (f : Nat) (seen : Array Bool) (a : Act) (w : World), seen.getD k true = false → C w → HeadsR P md ops C (s + 1) L f (seen.setIfInBounds k true) a → wpAny P md ops Q (f + g + 1) seen a w := by
  intro f
  induction f with
  | zero => intro seen a w hun hw h; rw [Nat.zero_add]; exact hO seen a w hun hw h
  | succ f ih =>
    intro seen a w hun hw h
    have hr : k ∈ Region.ready md ops seen := mem_ready.2 ⟨hun, ok, hk0, fun e he => by rw [hre] at he; simp at he⟩
    rw [show f + 1 + g + 1 = (f + 1 + g) + 1 by omega]
    refine ⟨fun h0 => (by rw [h0] at hr; cases hr), fun i hi => ?_⟩
    by_cases e : i = k
    · subst e
      unfold wpOp
      simp only [hk0]
      rw [if_pos (by simp [Region.wanted, hg])]
      refine .inl ?_
      unfold Oper.wp
      rw [hrun]
      simp only [Oper.upon]
      have ht : Top w (w.alloc o) := (Below.refl _ _).alloc (Nat.le_refl _) o
      exact headsR_in hap (by omega) hsel hC (fun seen a w' hw' => hL w.heap.size seen a w' (hN w hw) hw') (f + 1) _ a (w.alloc o) getD_self (hC w _ hw ht) (heap_alloc_new w o) h
    · have hop := h.2 i (ready_mono hi e)
      refine wpOp_of_rOp hw (fun a' w' ht h3 => ?_) hop.2
      have := ih (seen.setIfInBounds i true) a' w' (by rw [getD_set_ne true e]; exact hun) (hC w w' hw ht) (by rw [Array.setIfInBounds_comm _ _ e]; exact h3)
      rwa [show f + 1 + g = f + g + 1 by omega]
end
def lexAllocB (ops : Array Oper) (m k : Nat) : Bool :=
  Region.noSelect ops && (decide (0 < m) && (decide (m ≤ k) && (decide (k < ops.size) && (Region.sinkB .any ops (m - 1) && (lateB .any ops (m - 1) k && (Region.free .any ops (Array.replicate ops.size false) k && (((List.range k).all fun j => !Region.waitsFor .any ops j k)
    && lexA .any ops (k + 1) (ops.size - (k + 1)) k (k - m) m 0 (Array.replicate ops.size false))))))))
/-- m quiet operations, some late ones that lean on no world, an alloc (number k) that may come up wherever, then the others, one behind the other. -/
theorem region_allocR {P : Program} {id : Nat} {Q : Exit → Act → World → Prop} {a : Act} {w : World} {l : List Oper} (N : Nat) (C : World → Prop) (m k d : Nat) (ok : Oper) (o : Obj) (hm : P.follows .mixedOrders = true) (hB : lexAllocB l.toArray m k = true)
    (hk0 : l[k]? = some ok) (hd : ok.dst = some d) (hre : ok.after = #[]) (hg : ok.guard = none) (hrun : ∀ (a : Act) w, (execOp a.eval ok).run P w = .ok (.value (.pointer (some ⟨w.heap.size, 0, none⟩))) (w.alloc o))
    (hC : C w.drew) (hCT : ∀ w w', C w → Top w w' → C w') (hN : ∀ w, C w → N ≤ w.heap.size) (hQ : ∀ (d : Tmp) (v : Value) c (a : Act) (w : World), Q (.panic c) { tmps := a.tmps.setIfInBounds d v, defers := a.defers } w → Q (.panic c) a w)
    (h : wpQuietR P l.toArray C (wpPure P l.toArray (fun a' => ∀ b w', N ≤ b → C w' → w'.heap[b]? = some o → wpList P l.toArray Q (l.drop (k + 1)) { tmps := a'.tmps.setIfInBounds d (.pointer (some ⟨b, 0, none⟩)), defers := a'.defers } w') ((l.drop m).take (k - m))) (l.take m) a) :
    (Code.region id l.toArray true).wp P Q a w := by
  simp only [lexAllocB, Bool.and_eq_true, decide_eq_true_eq] at hB
  obtain ⟨hsel, hm0, hmk, hks, hs, hc, hfr, hwt, hlex⟩ := hB
  have hks' : k < l.length := by simpa using hks
  have htl : (l.take m).length = m := by simp; omega
  have hll : ((l.drop m).take (k - m)).length = k - m := by simp; omega
  have hk1 : l.toArray[k]? = some ok := by simpa using hk0
  have fr0 : (Array.replicate l.toArray.size false).getD k true = false := getD_in (by simp; omega) (getD_replicate_false _ _)
  have inv0 : InvK .any l.toArray (m - 1) k (Array.replicate l.toArray.size false) :=
    ⟨by simp, fun j oj _ hl => (by rw [getD_replicate_false] at hl; cases hl), fun t _ _ ht => getD_in (by simpa using ht) (getD_replicate_false _ _)⟩
  have inv1 := inv0.set (i := k) (mem_ready.2 ⟨fr0, ok, hk1, fun e he => by rw [hre] at he; simp at he⟩) (.inr rfl)
  have hap : ∀ (j : Nat) oj, l.toArray[j]? = some oj → j < k → ok.apart l.toArray oj = true := by
    intro j oj hj hjk
    refine Region.free_spec hk1 hfr j oj hj (by omega) (getD_in (by simp; omega) (getD_replicate_false _ _)) ?_
    intro e he hb heq
    have h1 := List.all_eq_true.1 hwt j (List.mem_range.2 hjk)
    have h2 : Region.waitsFor .any l.toArray j k = true := by
      unfold Region.waitsFor
      rw [hj]
      exact Array.any_eq_true'.2 ⟨e, he, by simp [hb, heq]⟩
    rw [h2] at h1
    cases h1
  have H := headsR_lex (P := P) (md := .any) (C := C) (s := m - 1) (k := k) (m := m) (n := k + 1) (late := k - m) (g := l.toArray.size - (k + 1)) hsel hs hc (by simp; omega) (by omega) (by omega) (l.take m) 0 _ a (fun j hj => by rw [htl] at hj; simp [hj]) (by simpa using htl)
    inv1 fr0 (by rw [htl]; exact hlex) h
  rw [htl] at H
  have hdl : (l.drop (k + 1)).length = l.toArray.size - (k + 1) := by simp
  have hdg : ∀ j, (l.drop (k + 1))[j]? = l.toArray[k + 1 + j]? := fun j => by simp [List.getElem?_drop]
  have hlg : ∀ i, i < ((l.drop m).take (k - m)).length → ((l.drop m).take (k - m))[i]? = l.toArray[m + i]? := fun i hi => by
    rw [hll] at hi
    simp [List.getElem?_drop, hi]
  refine wp_region_any hm ?_
  have H2 := headsR_out (Q := Q) (g := k - m + (l.toArray.size - (k + 1))) (o := o) hk1 (show m - 1 < k by omega) hs hc (by simp; omega) hap hsel hCT hN hre hg hrun
    (fun b seen a' w' hNb hw' hb hL => by
      obtain ⟨⟨seen0, h0, e, hx, hy⟩, _⟩ := hL
      rw [e]
      have := late_in (Q := Q) (b := b) (w := w') hsel hQ hap hdg hdl (fun a'' h'' => by have := h'' b w' hNb hw' hb; simpa [Act.put, hd] using this) _ m seen0 a' hlg (by rw [hll]; omega) (by rw [hll]; exact hx) hy
      rwa [hll] at this)
    (fun seen a' w' hun hw' hL => by
      obtain ⟨⟨seen0, h0, e, hx, hy⟩, _⟩ := hL
      rw [set_inj e hun h0]
      have := late_out (C := C) (Q := Q) (N := N) (w := w') hsel hQ hap hdg hdl (hN w' hw') (hCT w' _ hw' ((Below.refl _ _).alloc (Nat.le_refl _) o)) hk1 hg hrun (fun a'' h'' b w'' h1 h2 h3 => by have := h'' b w'' h1 h2 h3; simpa [Act.put, hd] using this) _ m seen0 a' hlg (by rw [hll]; omega) (by rw [hll]; exact hx) hy
      rwa [hll] at this) _ _ _ _ fr0 hC H
  rw [show m + (k - m + (l.toArray.size - (k + 1))) + 1 = l.toArray.size by simp; omega] at H2
  exact H2
theorem wpPure_nil {P : Program} {ops : Array Oper} {K : Act → Prop} {a : Act} (h : K a) : wpPure P ops K [] a := h
theorem wpPure_take {P : Program} {ops : Array Oper} {K : Act → Prop} {a : Act} {o : Oper} {rest : List Oper} {v : Value} (d : Nat) (hd : o.dst = some d) (hw : Region.wanted o (yielded ops a.tmps) = true)
    (h : ∀ w, (execOp a.eval o).run P w = .ok (.value v) w) (hr : wpPure P ops K rest { tmps := a.tmps.setIfInBounds d v, defers := a.defers }) : wpPure P ops K (o :: rest) a :=
  ⟨v, .inl ⟨hw, h⟩, by simpa [Act.put, hd] using hr⟩
theorem wpQuiet_of_R {P : Program} {ops : Array Oper} {C : World → Prop} (hCT : ∀ w w', C w → Top w w' → C w') {Q : Act → Prop} : ∀ {l : List Oper} {a : Act}, wpQuietR P ops C Q l a → wpQuiet P ops C Q l a
  | [], _, h => h
  | o :: l, a, h => by
    unfold wpQuietR at h
    unfold wpQuiet
    split
    · rename_i hw
      rw [if_pos hw] at h
      obtain ⟨v, h1, h2⟩ := h
      refine ⟨v, fun w hC => ?_, wpQuiet_of_R hCT h2⟩
      have h3 := h1 w hC
      unfold Oper.quietAt at *
      generalize (execOp a.eval o).run P w = r at *
      cases r with
      | ok n w' =>
        cases n <;> simp only [Oper.quietUpon] at h3 ⊢
        all_goals first
          | exact h3
          | (obtain ⟨e1, hc⟩ := h3; exact ⟨e1, hc.mono fun e w'' ⟨he, ht⟩ => ⟨he, hCT _ _ hC (by rw [← e1]; rw [← e1] at ht; exact ht)⟩⟩)
      | halt x w' => simp only [Oper.quietUpon] at h3
    · rename_i hw
      rw [if_neg hw] at h
      exact wpQuiet_of_R hCT h
/-- All operations are quiet. -/
theorem region_quietR {P : Program} {id : Nat} {Q : Exit → Act → World → Prop} {a : Act} {w : World} {l : List Oper} (C : World → Prop) (hm : P.follows .mixedOrders = true) (hB : Region.lexB .any l.toArray = true) (hC : C w.drew) (hCT : ∀ w w', C w → Top w w' → C w')
    (h : wpQuietR P l.toArray C (fun a' => ∀ w', C w' → Q .normal a' w') l a) : (Code.region id l.toArray true).wp P Q a w :=
  region_quietC C hm hB hC (wpQuiet_of_R hCT h)
/-- n operations are quiet; then the others, one behind the other. -/
theorem region_tailR {P : Program} {id : Nat} {Q : Exit → Act → World → Prop} {a : Act} {w : World} {l : List Oper} (C : World → Prop) (n : Nat) (hm : P.follows .mixedOrders = true) (hB : Region.lexTailB .any l.toArray n = true) (hC : C w.drew) (hCT : ∀ w w', C w → Top w w' → C w')
    (h : wpQuietR P l.toArray C (fun a' => ∀ w', C w' → wpList P l.toArray Q (l.drop n) a' w') (l.take n) a) : (Code.region id l.toArray true).wp P Q a w :=
  region_tailC C n hm hB hC (wpQuiet_of_R hCT h)
/-- Worlds that lie above one. -/
theorem top_closed (n : Nat) (w0 : World) (hn : n ≤ w0.heap.size) : ∀ w w', Below n w0 w → Top w w' → Below n w0 w' := fun _ _ h ht => h.trans (ht.mono (Nat.le_trans hn h.size))
end Go.Proofs.YtoompcgdhokdlaaDoor

set_option linter.unusedVariables false
namespace Go.Proofs.YtoompcgdhokdlaaDoor
open Go.RowKit

section
variable {P : Program} {ops : Array Oper} {Q : Exit → Act → World → Prop} {md : Region.Mode} {S : World → Prop} {x : Nat}
/-- As 'wpAnyH': behind x nothing is asked. -/
def wpAnyX (P : Program) (md : Region.Mode) (ops : Array Oper) (Q : Exit → Act → World → Prop) (S : World → Prop) (x : Nat) : Nat → Array Bool → Act → World → Prop
  | 0, listed, a, w => Region.ready md ops listed = [] ∧ Q .normal a w
  | fuel + 1, listed, a, w =>
    (Region.ready md ops listed = [] → Q .normal a w) ∧
    ∀ i ∈ Region.ready md ops listed, wpOp P ops Q i (fun a' w' => (i ≠ x → S w') ∧ wpAnyX P md ops Q S x fuel (listed.setIfInBounds i true) a' w') a w
theorem wpAny_of_x : ∀ (fuel : Nat) (listed : Array Bool) (a : Act) (w : World), wpAnyX P md ops Q S x fuel listed a w → wpAny P md ops Q fuel listed a w
  | 0, _, _, _, h => h
  | fuel + 1, _, _, _, h => ⟨h.1, fun i hi => wpOp_mono (fun a' w' h' => wpAny_of_x fuel _ a' w' h'.2) (h.2 i hi)⟩
theorem wpAnyX_first {i : Nat} {oi ox : Oper} {v : Value} (hi : ops[i]? = some oi) (hox : ops[x]? = some ox) (hxi : ∃ e ∈ ox.after, Region.binds md e = true ∧ e.on = i) (hix : i ≠ x)
    (hsel : ∀ (j : Nat) (o : Oper) cs b, ops[j]? = some o → o.op ≠ .select cs b)
    (hQ : ∀ c a w, Q (.panic c) (a.put oi.dst v) w → Q (.panic c) a w) :
    ∀ (fuel : Nat) (listed : Array Bool) (a : Act) (w : World),
      (∀ j oj, ops[j]? = some oj → j ≠ i → listed.getD j true = false → (∀ e ∈ oj.after, Region.binds md e = true → e.on ≠ i) → oi.apart ops oj = true) →
      i ∈ Region.ready md ops listed → YieldsIf P ops S oi v a → S w →
      wpAnyX P md ops Q S x fuel (listed.setIfInBounds i true) (a.put oi.dst v) w → wpAnyX P md ops Q S x (fuel + 1) listed a w := by
  intro fuel
  induction fuel with
  | zero =>
    intro listed a w _ hr hy hS H
    refine ⟨fun h => (by rw [h] at hr; cases hr), fun j hj => ?_⟩
    by_cases hji : j = i
    · subst hji; exact hy.wpOp hi hS ⟨fun _ => hS, H⟩
    · have := ready_mono hj hji
      rw [H.1] at this
      cases this
  | succ fuel ih =>
    intro listed a w hfree hr hy hS H
    refine ⟨fun h => (by rw [h] at hr; cases hr), fun j hj => ?_⟩
    by_cases hji : j = i
    · subst hji; exact hy.wpOp hi hS ⟨fun _ => hS, H⟩
    · have h1 := H.2 j (ready_mono hj hji)
      obtain ⟨hjun, oj, hoj, hall⟩ := mem_ready.1 hj
      have hnot : ∀ e ∈ oj.after, Region.binds md e = true → e.on ≠ i := fun e he hb heq => by
        have h1 := hall e he hb
        have h0 := (mem_ready.1 hr).1
        rw [heq] at h1
        rcases Nat.lt_or_ge i listed.size with h' | h'
        · simp [h'] at h0 h1; rw [h0] at h1; cases h1
        · simp [Array.getElem?_eq_none h'] at h1
      have hjx : j ≠ x := by
        rintro rfl
        rw [hox] at hoj
        cases hoj
        obtain ⟨e, he, hb, heq⟩ := hxi
        exact hnot e he hb heq
      have h2 := wpOp_putIf hoj (hfree j oj hoj hji hjun hnot) (fun cs b => hsel i oi cs b hi) (fun cs b => hsel j oj cs b hoj) hQ hy h1
      have hfree' : ∀ k ok, ops[k]? = some ok → k ≠ i → (listed.setIfInBounds j true).getD k true = false →
          (∀ e ∈ ok.after, Region.binds md e = true → e.on ≠ i) → oi.apart ops ok = true := fun k ok hk hki hun hno => by
        refine hfree k ok hk hki ?_ hno
        by_cases hjk : j = k
        · subst hjk; exact hjun
        · rw [getD_set_ne true hjk] at hun; exact hun
      refine wpOp_mono (fun a' w' h3 => ⟨fun _ => h3.2.1 hjx, ih (listed.setIfInBounds j true) a' w' hfree' (ready_mono hr (Ne.symm hji)) h3.1 (h3.2.1 hjx) ?_⟩) h2
      rw [Array.setIfInBounds_comm _ _ hji]
      exact h3.2.2
/-- Does x wait for i? -/
def waitsB (md : Region.Mode) (ops : Array Oper) (x i : Nat) : Bool := match ops[x]? with
  | some ox => ox.after.any (fun e => Region.binds md e && e.on == i) && i != x
  | none => false
theorem waits_spec {i : Nat} (h : waitsB md ops x i = true) : ∃ ox, ops[x]? = some ox ∧ (∃ e ∈ ox.after, Region.binds md e = true ∧ e.on = i) ∧ i ≠ x := by
  unfold waitsB at h
  split at h
  · rename_i ox hox
    simp only [Bool.and_eq_true, Array.any_eq_true, bne_iff_ne, beq_iff_eq] at h
    obtain ⟨⟨k, hk, h1, h2⟩, h3⟩ := h
    exact ⟨ox, hox, ⟨_, Array.getElem_mem hk, h1, h2⟩, h3⟩
  · cases h
theorem takeX {i d : Nat} {oi : Oper} {v : Value} {fuel : Nat} {listed : Array Bool} {a : Act} {w : World} (hi : ops[i]? = some oi) (hd : oi.dst = some d) (hx : waitsB md ops x i = true)
    (hs : Region.noSelect ops = true) (hf : Region.free md ops listed i = true) (hr : (Region.ready md ops listed).contains i = true)
    (hQ : ∀ c a w, Q (.panic c) (a.put oi.dst v) w → Q (.panic c) a w) (hy : YieldsIf P ops S oi v a) (hS : S w)
    (h : wpAnyX P md ops Q S x fuel (listed.setIfInBounds i true) { tmps := a.tmps.setIfInBounds d v, defers := a.defers } w) : wpAnyX P md ops Q S x (fuel + 1) listed a w := by
  obtain ⟨ox, h1, h2, h3⟩ := waits_spec hx
  exact wpAnyX_first hi h1 h2 h3 (Region.noSelect_spec hs) hQ fuel listed a w (Region.free_spec hi hf) (by simpa using hr) hy hS (by rw [hd]; exact h)
def AllReadyX (P : Program) (md : Region.Mode) (ops : Array Oper) (Q : Exit → Act → World → Prop) (S : World → Prop) (x : Nat) (fuel : Nat) (listed : Array Bool) (a : Act) (w : World) (rs : List Nat) : Prop :=
  ∀ i ∈ rs, wpOp P ops Q i (fun a' w' => (i ≠ x → S w') ∧ wpAnyX P md ops Q S x fuel (listed.setIfInBounds i true) a' w') a w
theorem AllReadyX.nil {fuel : Nat} {listed : Array Bool} {a : Act} {w : World} : AllReadyX P md ops Q S x fuel listed a w [] := fun _ h => by cases h
theorem AllReadyX.cons {fuel : Nat} {listed : Array Bool} {a : Act} {w : World} {i : Nat} {o : Oper} {rs : List Nat} (ho : ops[i]? = some o)
    (h : ∀ K' : Act → World → Prop, Shut (∀ a w, S w → (S w → wpAnyX P md ops Q S x fuel (listed.setIfInBounds i true) a w) → K' a w) → if Region.wanted o (yielded ops a.tmps) = true then Oper.wp P o a w K' Q else K' (a.put o.dst undef) w)
    (hs : AllReadyX P md ops Q S x fuel listed a w rs) : AllReadyX P md ops Q S x fuel listed a w (i :: rs) := fun j hj => by
  rcases List.mem_cons.1 hj with rfl | hj
  · exact wpOp_step ho (fun K' hK => h K' (fun a w hS hW => hK a w ⟨fun _ => hS, hW hS⟩))
  · exact hs j hj
theorem AllReadyX.last {fuel : Nat} {listed : Array Bool} {a : Act} {w : World} {o : Oper} {rs : List Nat} (ho : ops[x]? = some o)
    (h : ∀ K' : Act → World → Prop, Shut (∀ a w, wpAnyX P md ops Q S x fuel (listed.setIfInBounds x true) a w → K' a w) → if Region.wanted o (yielded ops a.tmps) = true then Oper.wp P o a w K' Q else K' (a.put o.dst undef) w)
    (hs : AllReadyX P md ops Q S x fuel listed a w rs) : AllReadyX P md ops Q S x fuel listed a w (x :: rs) := fun j hj => by
  rcases List.mem_cons.1 hj with rfl | hj
  · exact wpOp_step ho (fun K' hK => h K' (fun a w hW => hK a w ⟨fun h => absurd rfl h, hW⟩))
  · exact hs j hj
theorem readyX_list {fuel : Nat} {listed : Array Bool} {a : Act} {w : World} {i : Nat} {o : Oper} {rs : List Nat} (ho : ops[i]? = some o)
    (h : ∀ Q' : Exit → Act → World → Prop, Shut (∀ a w, S w → (S w → wpAnyX P md ops Q S x fuel (listed.setIfInBounds i true) a w) → wpList P ops Q' [] a w) → wpList P ops Q' [o] a w)
    (hs : AllReadyX P md ops Q S x fuel listed a w rs) : AllReadyX P md ops Q S x fuel listed a w (i :: rs) := fun j hj => by
  rcases List.mem_cons.1 hj with rfl | hj
  · exact wpOp_ofList ho (h _ (fun a w hS hW => ⟨fun _ => hS, hW hS⟩))
  · exact hs j hj
theorem lastX_list {fuel : Nat} {listed : Array Bool} {a : Act} {w : World} {o : Oper} {rs : List Nat} (ho : ops[x]? = some o)
    (h : ∀ Q' : Exit → Act → World → Prop, Shut (∀ a w, wpAnyX P md ops Q S x fuel (listed.setIfInBounds x true) a w → wpList P ops Q' [] a w) → wpList P ops Q' [o] a w)
    (hs : AllReadyX P md ops Q S x fuel listed a w rs) : AllReadyX P md ops Q S x fuel listed a w (x :: rs) := fun j hj => by
  rcases List.mem_cons.1 hj with rfl | hj
  · exact wpOp_ofList ho (h _ (fun a w hW => ⟨fun h => absurd rfl h, hW⟩))
  · exact hs j hj
theorem wpAnyX_ready {rs : List Nat} {fuel : Nat} {listed : Array Bool} {a : Act} {w : World} (hr : Region.ready md ops listed = rs) (hne : rs ≠ [])
    (h : AllReadyX P md ops Q S x fuel listed a w rs) : wpAnyX P md ops Q S x (fuel + 1) listed a w := ⟨fun h0 => absurd (hr ▸ h0) hne, hr ▸ h⟩
theorem wpAnyX_done {listed : Array Bool} {a : Act} {w : World} (hr : Region.ready md ops listed = []) (h : Q .normal a w) :
    ∀ fuel, wpAnyX P md ops Q S x fuel listed a w
  | 0 => ⟨hr, h⟩
  | _ + 1 => ⟨fun _ => h, by rw [hr]; simp⟩
theorem wp_region_x {id : Nat} {a : Act} {w : World} (x : Nat) (hm : P.follows .mixedOrders = true) (hS : S w.drew)
    (h : S w.drew → wpAnyX P .any ops Q S x ops.size (Array.replicate ops.size false) a w.drew) : (Code.region id ops true).wp P Q a w :=
  wp_region_any hm (wpAny_of_x _ _ _ _ (h hS))
end
end Go.Proofs.YtoompcgdhokdlaaDoor

set_option linter.unusedVariables false
namespace Go.Proofs.YtoompcgdhokdlaaDoor
open Go.RowKit

section
variable {P : Program} {ops : Array Oper} {rest : List Oper} {o : Oper} {a : Act} {w : World} {Q : Exit → Act → World → Prop}
theorem extract_whole (cs : Array Value) : cs.extract 0 (0 + cs.size) = cs := by rw [Nat.zero_add]; exact Array.extract_size
theorem putRow_whole (cs old : Array Value) (h : cs.size = old.size) : putRow old 0 cs.toList = cs := by rw [putRow_all _ _ (by simpa using h), Array.toArray_toList]
/-- A whole block is loaded. -/
theorem load_all (ty : TypeId) (x : Operand) {g : Nat} {t : TypeId} {cs : Array Value} {d : TypeDesc} (hgd : Region.wanted o (yielded ops a.tmps) = true) (ho : o.op = .load ty x) (hx : a.eval x = .pointer (some ⟨g, 0, none⟩)) (hg : w.heap[g]? = some (.cells cs t (0, 0)))
    (hu : P.underlying ty = some d) (hd : (match d with | .struct _ | .array _ _ => true | _ => false) = true) (hi : (P.info? ty).map (·.size) = some cs.size)
    (h : wpList P ops Q rest (a.put o.dst (.agg cs)) w) : wpList P ops Q (o :: rest) a w :=
  wpList_load_agg hgd ty x ho g 0 hx t cs cs.size d hg hu hd hi (by omega) cs (extract_whole cs) h
/-- A whole block is stored. -/
theorem store_all (ty : TypeId) (x y : Operand) {g : Nat} {t : TypeId} {cs old : Array Value} (hgd : Region.wanted o (yielded ops a.tmps) = true) (ho : o.op = .store ty x y) (hx : a.eval x = .pointer (some ⟨g, 0, none⟩)) (hy : a.eval y = .agg cs) (hg : w.heap[g]? = some (.cells old t (0, 0)))
    (hi : (P.info? ty).map (·.size) = some cs.size) (hs : cs.size = old.size) (h1 : ∀ v ∈ cs.toList, v.oneCell' = true)
    (h : ∀ w', Upd w w' g (.cells cs t (0, 0)) → wpList P ops Q rest (a.put o.dst undef) w') : wpList P ops Q (o :: rest) a w :=
  wpList_store_agg hgd ty x y ho g 0 cs hx hy t old hg hi (by omega) h1 cs (putRow_whole cs old hs) h
/-- Quietly. -/
theorem quiet_load_all {C : World → Prop} (ty : TypeId) (x : Operand) {g : Nat} {t : TypeId} {cs : Array Value} {d : TypeDesc} (ho : o.op = .load ty x) (hx : a.eval x = .pointer (some ⟨g, 0, none⟩)) (hg : w.heap[g]? = some (.cells cs t (0, 0)))
    (hu : P.underlying ty = some d) (hd : (match d with | .struct _ | .array _ _ => true | _ => false) = true) (hi : (P.info? ty).map (·.size) = some cs.size) : o.quietAt P a C w (.agg cs) :=
  quietAt_load_agg ty x ho g 0 hx t cs cs.size d hg hu hd hi (by omega) cs (extract_whole cs)
end
end Go.Proofs.YtoompcgdhokdlaaDoor

namespace Go.Proofs.YtoompcgdhokdlaaDoor

/-- The sequence that begins with a region. -/
def seqOf (n : Nat) : Code → Option Code
  | .seq (.region m x y) b => if m = n then some (.seq (.region m x y) b) else seqOf n b
  | .seq a b => match seqOf n a with
    | some c => some c
    | none => seqOf n b
  | .loop c => seqOf n c
  | .block _ c => seqOf n c
  | .scope c => seqOf n c
  | .cond _ a b => match seqOf n a with
    | some c => some c
    | none => seqOf n b
  | _ => none
end Go.Proofs.YtoompcgdhokdlaaDoor

set_option linter.unusedSimpArgs false
set_option linter.unusedVariables false
namespace Go.Proofs.YtoompcgdhokdlaaDoor
open Go.RowKit Go.MapKept

/-- Block b is a map that holds f's values. -/
def MapI (q : IntKind) (w : World) (b : Nat) (f : Int → Option Value) : Prop :=
  ∃ es clock, w.heap[b]? = some (.map es clock) ∧ Stamped es clock ∧ (∀ x ∈ es.toList, IsKey (.int q) x.key) ∧ ∀ k v, f k = some v ↔ ∃ x ∈ es.toList, x.key = .int q k ∧ x.val = v
theorem MapI.lt {q : IntKind} {w : World} {b : Nat} {f : Int → Option Value} (h : MapI q w b f) : b < w.heap.size := by
  obtain ⟨es, c, h, _⟩ := h
  exact blk_lt h
theorem MapI.same {q : IntKind} {w w' : World} {b : Nat} {f : Int → Option Value} (h : MapI q w b f) (he : w'.heap[b]? = w.heap[b]?) : MapI q w' b f := by
  obtain ⟨es, c, h, h2⟩ := h
  exact ⟨es, c, by rw [he, h], h2⟩
theorem MapI.none_of {q : IntKind} {w : World} {b : Nat} {f : Int → Option Value} {es : Array MapEntry} {k : Int} (hf : ∀ k v, f k = some v ↔ ∃ x ∈ es.toList, x.key = .int q k ∧ x.val = v) (h : ∀ x ∈ es.toList, x.key ≠ .int q k) : f k = none := by
  cases hk : f k with
  | none => rfl
  | some v => obtain ⟨x, hx, e, _⟩ := (hf k v).1 hk; exact absurd e (h x hx)
theorem mapI_made (q : IntKind) (w : World) : MapI q (w.alloc (.map #[] 0)) w.heap.size fun _ => none :=
  ⟨#[], 0, blk_new w _, stamped_empty 0, by simp, fun k v => by simp⟩
def setB (w : World) (b : Nat) (o : Obj) : World := { w with heap := w.heap.setIfInBounds b o }
theorem upd_setB {w : World} {b : Nat} {es : Array MapEntry} {c : Nat} (hb : w.heap[b]? = some (.map es c)) (o : Obj) : Upd w (setB w b o) b o :=
  ⟨rfl, rfl, rfl, by simp [setB], (heap_set hb).1, (heap_set hb).2⟩

section
variable {P : Program} {t k e : TypeId} {q : IntKind} {w : World} {b : Nat} {f : Int → Option Value}
theorem mapI_lookup (ht : P.underlying t = some (.map k e)) (hk : P.underlying k = some (.int q)) (h : MapI q w b f) (x : Int) (z : Value) (hz : (zeroValue e).run P w = .ok z w) (ok : Bool) :
    (Instr.lookup t (.map (some b)) (.int q x) ok).run P w = .ok (if ok then .tuple #[(f x).getD z, .bool (f x).isSome] else (f x).getD z) w := by
  obtain ⟨es, clock, hb, hs, hks, hf⟩ := h
  have hkey : IsKey (.int q) (.int q x) := rfl
  rcases findNow_spec hkey es.toList 0 hks with ⟨h1, h2⟩ | ⟨j, e0, h1, h2, h3⟩
  · have hn : f x = none := MapI.none_of (w := w) (b := b) hf h2
    rw [hn]
    cases ok <;> simp [Instr.lookup, run_underlying ht, MapKept.run_getObj_map hb, run_checkKey hk hkey, run_findKey hk h1, Result.andThen, hz]
  · have hn : f x = some e0.val := (hf x e0.val).2 ⟨e0, List.mem_of_getElem? h2, h3, rfl⟩
    rw [hn]
    cases ok <;> simp [Instr.lookup, run_underlying ht, MapKept.run_getObj_map hb, run_checkKey hk hkey, run_findKey hk h1, Result.andThen]
theorem mapI_update (ht : P.underlying t = some (.map k e)) (hk : P.underlying k = some (.int q)) (h : MapI q w b f) (x : Int) (v : Value) :
    ∃ w' o, (Instr.mapUpdate t (.map (some b)) (.int q x) v).run P w = .ok () w' ∧ Upd w w' b o ∧ MapI q w' b fun y => if y = x then some v else f y := by
  obtain ⟨es, clock, hb, hs, hks, hf⟩ := h
  have hkey : IsKey (.int q) (.int q x) := rfl
  rcases findNow_spec hkey es.toList 0 hks with ⟨h1, h2⟩ | ⟨j, e0, h1, h2, h3⟩
  · refine ⟨setB w b (.map (es.push ⟨.int q x, v, clock⟩) (clock + 1)), .map (es.push ⟨.int q x, v, clock⟩) (clock + 1), by simp [Instr.mapUpdate, run_underlying ht, MapKept.run_getObj_map hb, run_checkKey hk hkey, run_findKey hk h1, MapKept.run_setObj_map _ hb, Result.andThen, setB], upd_setB hb _, ?_⟩
    refine ⟨_, _, (upd_setB hb _).same, stamped_push hs h2, ?_, fun y u => ?_⟩
    · intro a ha
      simp only [Array.toList_push, List.mem_append, List.mem_singleton] at ha
      rcases ha with ha | rfl
      · exact hks a ha
      · rfl
    · dsimp only
      simp only [Array.toList_push, List.mem_append, List.mem_singleton]
      by_cases hy : y = x
      · subst hy
        rw [if_pos rfl]
        constructor
        · intro e; cases e; exact ⟨_, .inr rfl, rfl, rfl⟩
        · rintro ⟨a, ha | rfl, h4, h5⟩
          · exact absurd h4 (h2 a ha)
          · exact congrArg some h5
      · rw [if_neg hy, hf]
        constructor
        · rintro ⟨a, ha, h4⟩; exact ⟨a, .inl ha, h4⟩
        · rintro ⟨a, ha | rfl, h4, h5⟩
          · exact ⟨a, ha, h4, h5⟩
          · exact absurd (by simpa using h4.symm) hy
  · have hj : es[j]? = some e0 := by simpa using h2
    have hjl : j < es.size := (Array.getElem?_eq_some_iff.1 hj).1
    have hkeyf : ∀ e', es[j]? = some e' → ({ e' with key := .int q x, val := v } : MapEntry).key = e'.key := fun e' he' => by rw [hj] at he'; cases he'; exact h3.symm
    refine ⟨setB w b (.map (es.modify j fun e' => { e' with key := .int q x, val := v }) clock), .map (es.modify j fun e' => { e' with key := .int q x, val := v }) clock, by simp [Instr.mapUpdate, run_underlying ht, MapKept.run_getObj_map hb, run_checkKey hk hkey, run_findKey hk h1, hj, h3, run_keyThatStays hkey, MapKept.run_setObj_map _ hb, Result.andThen, setB], upd_setB hb _, ?_⟩
    refine ⟨es.modify j fun e' => ({ e' with key := .int q x, val := v } : MapEntry), clock, (upd_setB hb _).same, stamped_modify hs _ _ (fun _ _ => rfl) (fun e' _ he' => hkeyf e' he'), isKey_modify hks _ _ hkeyf, fun y u => ?_⟩
    dsimp only
    have hmem : ∀ a, a ∈ (es.modify j fun e' => ({ e' with key := .int q x, val := v } : MapEntry)).toList ↔ a = { e0 with key := .int q x, val := v } ∨ ∃ i, i ≠ j ∧ es[i]? = some a := by
      intro a
      rw [Array.mem_toList_iff, Array.mem_iff_getElem?]
      constructor
      · rintro ⟨i, hi⟩
        rw [Array.getElem?_modify] at hi
        by_cases hij : j = i
        · subst hij; rw [if_pos rfl, hj] at hi; exact .inl (by simpa using hi.symm)
        · rw [if_neg hij] at hi; exact .inr ⟨i, fun e => hij e.symm, hi⟩
      · rintro (rfl | ⟨i, hij, hi⟩)
        · exact ⟨j, by rw [Array.getElem?_modify, if_pos rfl, hj]; rfl⟩
        · exact ⟨i, by rw [Array.getElem?_modify, if_neg (fun e => hij e.symm), hi]⟩
    have hapart : ∀ i a, i ≠ j → es[i]? = some a → a.key ≠ .int q x := by
      intro i a hij hi e
      have hn := hs.2.2
      have hil : i < es.size := (Array.getElem?_eq_some_iff.1 hi).1
      have e1 : (es.toList.map (·.key))[i]? = (es.toList.map (·.key))[j]? := by simp [hi, hj, e, h3]
      exact hij ((List.getElem?_inj (by simpa using hil) hn).1 e1)
    by_cases hy : y = x
    · subst hy
      rw [if_pos rfl]
      constructor
      · intro e; cases e; exact ⟨_, (hmem _).2 (.inl rfl), rfl, rfl⟩
      · rintro ⟨a, ha, h4, h5⟩
        rcases (hmem a).1 ha with rfl | ⟨i, hij, hi⟩
        · exact congrArg some h5
        · exact absurd h4 (hapart i a hij hi)
    · rw [if_neg hy, hf]
      constructor
      · rintro ⟨a, ha, h4, h5⟩
        rw [Array.mem_toList_iff, Array.mem_iff_getElem?] at ha
        obtain ⟨i, hi⟩ := ha
        refine ⟨a, (hmem a).2 (.inr ⟨i, fun e => ?_, hi⟩), h4, h5⟩
        subst e
        rw [hj] at hi
        cases hi
        rw [h3] at h4
        exact hy (by simpa using h4.symm)
      · rintro ⟨a, ha, h4, h5⟩
        rcases (hmem a).1 ha with rfl | ⟨i, hij, hi⟩
        · exact absurd (by simpa using h4.symm) hy
        · exact ⟨a, by rw [Array.mem_toList_iff, Array.mem_iff_getElem?]; exact ⟨i, hi⟩, h4, h5⟩
theorem mapI_delete (ht : P.underlying t = some (.map k e)) (hk : P.underlying k = some (.int q)) (h : MapI q w b f) (x : Int) (ty : TypeId) :
    ∃ w' o, (Builtin.delete_ #[t, k] ty #[.map (some b), .int q x]).run P w = .ok (.tuple #[]) w' ∧ Upd w w' b o ∧ MapI q w' b fun y => if y = x then none else f y := by
  obtain ⟨es, clock, hb, hs, hks, hf⟩ := h
  have hkey : IsKey (.int q) (.int q x) := rfl
  rcases findNow_spec hkey es.toList 0 hks with ⟨h1, h2⟩ | ⟨j, e0, h1, h2, h3⟩
  · refine ⟨setB w b (.map es clock), .map es clock, by simp [Builtin.delete_, run_underlying ht, MapKept.run_getObj_map hb, run_checkKey hk hkey, run_findKey hk h1, MapKept.run_setObj_map _ hb, Result.andThen, setB], upd_setB hb _, ?_⟩
    refine ⟨_, _, (upd_setB hb _).same, hs, hks, fun y u => ?_⟩
    dsimp only
    by_cases hy : y = x
    · subst hy
      rw [if_pos rfl]
      constructor
      · intro e; cases e
      · rintro ⟨a, ha, h4, _⟩; exact absurd h4 (h2 a ha)
    · rw [if_neg hy, hf]
  · have hj : es[j]? = some e0 := by simpa using h2
    have hjl : j < es.size := (Array.getElem?_eq_some_iff.1 hj).1
    refine ⟨setB w b (.map (es.eraseIdxIfInBounds j) clock), .map (es.eraseIdxIfInBounds j) clock, by simp [Builtin.delete_, run_underlying ht, MapKept.run_getObj_map hb, run_checkKey hk hkey, run_findKey hk h1, MapKept.run_setObj_map _ hb, Result.andThen, setB], upd_setB hb _, ?_⟩
    have hl : (es.eraseIdxIfInBounds j).toList = es.toList.eraseIdx j := by
      unfold Array.eraseIdxIfInBounds
      rw [dif_pos hjl, Array.toList_eraseIdx]
    have hmem : ∀ a, a ∈ (es.eraseIdxIfInBounds j).toList ↔ ∃ i, i ≠ j ∧ es[i]? = some a := by
      intro a
      rw [hl, List.mem_eraseIdx_iff_getElem?]
      constructor
      · rintro ⟨i, h5, h6⟩; exact ⟨i, h5, by simpa using h6⟩
      · rintro ⟨i, h5, h6⟩; exact ⟨i, h5, by simpa using h6⟩
    have hapart : ∀ i a, i ≠ j → es[i]? = some a → a.key ≠ .int q x := by
      intro i a hij hi e
      have hn := hs.2.2
      have hil : i < es.size := (Array.getElem?_eq_some_iff.1 hi).1
      have e1 : (es.toList.map (·.key))[i]? = (es.toList.map (·.key))[j]? := by simp [hi, hj, e, h3]
      exact hij ((List.getElem?_inj (by simpa using hil) hn).1 e1)
    refine ⟨_, _, (upd_setB hb _).same, stamped_erase hs j, fun a ha => ?_, fun y u => ?_⟩
    · obtain ⟨i, _, hi⟩ := (hmem a).1 ha
      exact hks a (by rw [Array.mem_toList_iff, Array.mem_iff_getElem?]; exact ⟨i, hi⟩)
    · dsimp only
      by_cases hy : y = x
      · subst hy
        rw [if_pos rfl]
        constructor
        · intro e; cases e
        · rintro ⟨a, ha, h4, _⟩
          obtain ⟨i, hij, hi⟩ := (hmem a).1 ha
          exact absurd h4 (hapart i a hij hi)
      · rw [if_neg hy, hf]
        constructor
        · rintro ⟨a, ha, h4, h5⟩
          rw [Array.mem_toList_iff, Array.mem_iff_getElem?] at ha
          obtain ⟨i, hi⟩ := ha
          refine ⟨a, (hmem a).2 ⟨i, fun e => ?_, hi⟩, h4, h5⟩
          subst e
          rw [hj] at hi
          cases hi
          rw [h3] at h4
          exact hy (by simpa using h4.symm)
        · rintro ⟨a, ha, h4, h5⟩
          obtain ⟨i, _, hi⟩ := (hmem a).1 ha
          exact ⟨a, by rw [Array.mem_toList_iff, Array.mem_iff_getElem?]; exact ⟨i, hi⟩, h4, h5⟩
end
end Go.Proofs.YtoompcgdhokdlaaDoor

set_option linter.unusedSimpArgs false
set_option linter.unusedVariables false
namespace Go.Proofs.YtoompcgdhokdlaaDoor
open Go.RowKit

set_option maxRecDepth 100000 in
set_option maxHeartbeats 400000 in
theorem sized_any (A : Option Addr) (n cap : Nat) (bs : List Int) (A2 : Option Addr) (n2 cap2 : Nat) (xs : List Int) (w : World) (hrd : RdB w A n bs) (hnil : A = none → cap = 0) (hrd2 : RdB w A2 n2 xs) (hnil2 : A2 = none → cap2 = 0) (hbig : n ≤ 8796093022208) (hbig2 : n2 ≤ 8796093022208) :
    Calls Tryd.prog 53 #[.slice A n cap, .slice A2 n2 cap2] w fun e w' => ∃ r, e = .returned r ∧ OwB w' w.heap.size r (bs ++ be n2 4 ++ xs) ∧ Below w.heap.size w w' := by
  have HRD := bx hrd; have HNIL := bx hnil; have HRD2 := bx hrd2; have HNIL2 := bx hnil2
  clear hrd hnil hrd2 hnil2
  have hw : (n2 : Int) % 18446744073709551616 = n2 := by omega
  go_enter Tryd.func53, Tryd.ntmps53
  go_wp2_with fail
  refine (wput_any A n cap bs n2 4 _ HRD.out HNIL.out (by omega) (by decide)).mono ?_
  rintro e w1 ⟨r, rfl, ho, hb⟩
  have HO := bx ho; have B1 := bx hb; have HRD3 := bx (HRD2.out.below hb)
  have hlen : (bs ++ be n2 4).length + n2 ≤ 70368744177664 := by rw [List.length_append, be_length, HRD.out.1]; omega
  have HL := bx hlen
  clear ho hb hlen
  go_wp2_with (first
    | ((with_reducible refine at_call 11 ?_); go_must (refine wpList_app rfl (.tmp 9) (.tmp 10) rfl w.heap.size _ (bs ++ be n2 4) rfl HO.out A2 n2 cap2 xs rfl HRD3.out HNIL2.out HL.out B1.out.size ?_; intro v' w' h1 h2; have K1 := bx h1; have K2 := bx h2; clear h1 h2)))
  go_ret
  exact ⟨_, rfl, K1.out, HO.out.below K2.out B1.out (Nat.le_refl _) B1.out.size⟩
set_option maxRecDepth 100000 in
set_option maxHeartbeats 400000 in
theorem equal_any (A : Option Addr) (n cap : Nat) (bs : List Int) (A2 : Option Addr) (n2 cap2 : Nat) (xs : List Int) (w : World) (hrd : RdB w A n bs) (hrd2 : RdB w A2 n2 xs) (hB : IsB bs) (hB2 : IsB xs) :
    Calls Tryd.prog 55 #[.slice A n cap, .slice A2 n2 cap2] w fun e w' => e = .returned (.bool (decide (bs = xs))) ∧ w = w' := by
  have h1 := str_of hrd cap
  have h2 := str_of hrd2 cap2
  have HD := bx (str_dec hB hB2)
  clear hrd hrd2 hB hB2
  generalize strOfNums bs = a at *
  generalize strOfNums xs = b at *
  go_enter Tryd.func55, Tryd.ntmps55
  go_wp2_with fail
  go_ret
  exact ⟨by rw [← HD.out]; rfl, rfl⟩
end Go.Proofs.YtoompcgdhokdlaaDoor

set_option linter.unusedSimpArgs false
set_option linter.unusedVariables false
namespace Go.Proofs.YtoompcgdhokdlaaDoor
open Go.RowKit

/-- Blocks that lay there and are not in S are as they were. -/
structure Only (S : Nat → Prop) (w w' : World) : Prop where
  os : w'.os = w.os
  tape : w'.tape = w.tape
  output : w'.output = w.output
  size : w.heap.size ≤ w'.heap.size
  block : ∀ k, k < w.heap.size → ¬ S k → w'.heap[k]? = w.heap[k]?
theorem Only.refl (S : Nat → Prop) (w : World) : Only S w w := ⟨rfl, rfl, rfl, Nat.le_refl _, fun _ _ _ => rfl⟩
theorem Only.trans {S : Nat → Prop} {a b c : World} (h : Only S a b) (k : Only S b c) : Only S a c :=
  ⟨k.os.trans h.os, k.tape.trans h.tape, k.output.trans h.output, Nat.le_trans h.size k.size, fun i hi hn => (k.block i (Nat.lt_of_lt_of_le hi h.size) hn).trans (h.block i hi hn)⟩
theorem Only.mono {S T : Nat → Prop} {w w' : World} (h : Only S w w') (hs : ∀ k, S k → T k) : Only T w w' := ⟨h.os, h.tape, h.output, h.size, fun k hk hn => h.block k hk fun e => hn (hs k e)⟩
theorem Only.below {S : Nat → Prop} {w w' : World} (h : Only S w w') {B : Nat} (hB : B ≤ w.heap.size) (hS : ∀ k, S k → B ≤ k) : Below B w w' :=
  ⟨h.os, h.tape, h.output, h.size, fun k hk => h.block k (by omega) fun e => by have := hS k e; omega⟩
theorem only_of_below {S : Nat → Prop} {w w' : World} (h : Below w.heap.size w w') : Only S w w' := ⟨h.os, h.tape, h.output, h.size, fun k hk _ => h.block k hk⟩
theorem Only.alloc {S : Nat → Prop} {a w : World} (h : Only S a w) (o : Obj) : Only S a (w.alloc o) :=
  h.trans (only_of_below ((Below.refl _ _).alloc (Nat.le_refl _) o))
theorem Only.drew {S : Nat → Prop} {a w : World} (h : Only S a w) : Only S a w.drew := ⟨h.os, h.tape, h.output, h.size, h.block⟩
theorem Only.drewN {S : Nat → Prop} {a w : World} (h : Only S a w) (n : Nat) : Only S a (w.drewN n) := ⟨h.os, h.tape, h.output, h.size, h.block⟩
theorem Only.setCell {S : Nat → Prop} {a w : World} (h : Only S a w) {p : Addr} (hp : S p.block) (u : Value) : Only S a (w.setCell p u) :=
  h.trans ⟨rfl, rfl, rfl, by simp [World.setCell], fun k hk hn => Below.heap_setCell _ _ _ _ (fun e => hn (e ▸ hp))⟩
theorem Only.upd {S : Nat → Prop} {a w w' : World} {g : Nat} {o : Obj} (h : Only S a w) (hu : Upd w w' g o) (hg : S g) : Only S a w' :=
  h.trans ⟨hu.os, hu.tape, hu.output, by rw [hu.size]; exact Nat.le_refl _, fun k hk hn => hu.other k (fun e => hn (e ▸ hg))⟩
/-- An upd of a block that was made since. -/
theorem Only.updNew {S : Nat → Prop} {a w w' : World} {g : Nat} {o : Obj} (h : Only S a w) (hu : Upd w w' g o) (hg : a.heap.size ≤ g) : Only S a w' :=
  ⟨hu.os.trans h.os, hu.tape.trans h.tape, hu.output.trans h.output, by rw [hu.size]; exact h.size, fun k hk hn => (hu.other k (by omega)).trans (h.block k hk hn)⟩
theorem Only.grown {S : Nat → Prop} {a w w' : World} {row : Option Nat} (h : Only S a w) (hg : w.grownBy w' row) (hr : ∀ k, row = some k → S k) : Only S a w' :=
  h.trans ⟨hg.os, hg.tape, hg.output, hg.size, fun k hk hn => hg.block k hk (fun e => hn (hr k e.symm))⟩
theorem upd_cell {w : World} {b j : Nat} {c : Array Value} {T : TypeId} (h : w.heap[b]? = some (.cells c T (0, 0))) (v : Value) : Upd w (w.setCell ⟨b, j, none⟩ v) b (.cells (c.setIfInBounds j v) T (0, 0)) :=
  ⟨rfl, rfl, rfl, by simp [World.setCell], heap_setCell_same w b j c T _ h, fun k hk => Below.heap_setCell _ _ _ _ hk⟩
theorem Upd.trans {w w1 w2 : World} {g : Nat} {o o' : Obj} (h : Upd w w1 g o) (k : Upd w1 w2 g o') : Upd w w2 g o' :=
  ⟨k.os.trans h.os, k.tape.trans h.tape, k.output.trans h.output, k.size.trans h.size, k.same, fun i hi => (k.other i hi).trans (h.other i hi)⟩
end Go.Proofs.YtoompcgdhokdlaaDoor

set_option linter.unusedSimpArgs false
set_option linter.unusedVariables false
namespace Go.Proofs.YtoompcgdhokdlaaDoor
open Go.RowKit

/-- A reader in block R: what is left, and what is wrong. -/
def RdrAt (w : World) (R : Nat) (v e : Value) : Prop := w.heap[R]? = some (.cells #[v, e] 108 (0, 0))

set_option maxRecDepth 100000 in
set_option maxHeartbeats 400000 in
theorem rnew_any (A : Option Addr) (n cap : Nat) (bs : List Int) (w : World) (hrd : RdB w A n bs) (hnil : A = none → cap = 0) (hbig : n ≤ 35184372088832) :
    Calls Tryd.prog 43 #[.slice A n cap] w fun e w' => ∃ R A1 c1, e = .returned (.pointer (some ⟨R, 0, none⟩)) ∧ RdrAt w' R (.slice A1 n c1) .nilIface ∧ RdB w' A1 n bs ∧ n ≤ c1 ∧ (A1 = none → c1 = 0) ∧ (∀ a, A1 = some a → w.heap.size ≤ a.block ∧ a.block < R) ∧ w.heap.size ≤ R ∧ Below w.heap.size w w' := by
  have HRD := bx hrd; have HNIL := bx hnil
  clear hrd hnil
  go_enter Tryd.func43, Tryd.ntmps43
  go_wp2_with fail
  refine (clone_any A n cap bs _ HRD.out HNIL.out hbig).mono ?_
  rintro e w1 ⟨r, rfl, ho, hb⟩
  obtain ⟨A1, c1, rfl, hr1, hc1, hn1⟩ := ho.rdn HRD.out.1
  have hlt : ∀ a, A1 = some a → w.heap.size ≤ a.block ∧ a.block < w1.heap.size := fun a ha => by subst ha; exact ho.lt a.block rfl
  have B1 := bx hb; have HR1 := bx hr1; have HN1 := bx hn1; have HLT := bx hlt
  clear ho hb hr1 hn1 hlt
  go_wp2_with fail
  go_ret
  exact ⟨w1.heap.size, A1, c1, rfl, blk_new w1 _, HR1.out.below ((Below.refl _ _).alloc (Nat.le_refl _) _), hc1, HN1.out, HLT.out, B1.out.size, B1.out.alloc B1.out.size _⟩

/-- What a number's first n bytes tell. -/
def num (l : List Int) : Int := l.foldl (fun v c => v * 256 + c) 0
theorem num_bounds : ∀ (l : List Int) (v : Int) (k : Nat), IsB l → 0 ≤ v → v < 256 ^ k → 0 ≤ l.foldl (fun v c => v * 256 + c) v ∧ l.foldl (fun v c => v * 256 + c) v < 256 ^ (k + l.length)
  | [], v, k, _, h0, h1 => ⟨h0, h1⟩
  | c :: l, v, k, hB, h0, h1 => by
    have hc := hB 0
    simp only [List.getD_cons_zero] at hc
    have := num_bounds l (v * 256 + c) (k + 1) (fun j => by simpa using hB (j + 1)) (by omega) (by rw [Int.pow_succ]; omega)
    rw [List.length_cons, show k + (l.length + 1) = k + 1 + l.length by omega]
    exact this

/-- The first m of a reader's n bytes are taken out. -/
def Taken (w w' : World) (R m n c : Nat) (A : Option Addr) : Prop := ∃ A', (c = m ∨ A' = A.map (·.add m)) ∧ w' = w.setCell ⟨R, 0, none⟩ (.slice A' (n - m) (c - m))

set_option maxRecDepth 100000 in
set_option maxHeartbeats 400000 in
theorem take_fine (R m n c : Nat) (A : Option Addr) (w : World) (hR : RdrAt w R (.slice A n c) .nilIface) (hm : 1 ≤ m) (hmn : m ≤ n) (hnc : n ≤ c) :
    Calls Tryd.prog 65 #[.pointer (some ⟨R, 0, none⟩), .int .i64 m] w fun e w' => e = .returned (.tuple #[.slice A m m, .bool true]) ∧ Taken w w' R m n c A := by
  have c0 : w.cell? ⟨R, 0, none⟩ = some (.slice A n c) := blk_cell hR rfl
  have c1 : w.cell? ⟨R, 1, none⟩ = some .nilIface := blk_cell hR rfl
  have f0 : w.frozen? ⟨R, 0, none⟩ = false := blk_frozen 0 hR
  have HR := bx hR
  have hm0 : ¬ ((m : Int) < 1) := by omega
  have hmn' : ¬ ((n : Int) < m) := by omega
  clear hR
  go_enter Tryd.func65, Tryd.ntmps65
  go_wp2_with go_in
  · go_ret2
    exact ⟨rfl, A, .inl rfl, by rw [Nat.sub_self]⟩
  · go_ret2
    exact ⟨rfl, _, .inr rfl, rfl⟩

theorem or_byte {x c : Int} (hx : 0 ≤ x) (hx2 : x < 72057594037927936) (hc : 0 ≤ c) (hc2 : c < 256) : bits .or .u64 (x * 256) c = x * 256 + c := by
  obtain ⟨a, rfl⟩ := Int.eq_ofNat_of_zero_le hx
  obtain ⟨b, rfl⟩ := Int.eq_ofNat_of_zero_le hc
  have h1 : ((a : Int) * 256) = ((256 * a : Nat) : Int) := by omega
  have h2 : 256 * a + b = 256 * a ||| b := Nat.two_pow_add_eq_or_of_lt (i := 8) (b := b) (by omega) a
  rw [h1, bits_or_u64_nat _ _ (by omega) (by omega), ← h2]
  omega
theorem num_append (a : List Int) (c : Int) : num (a ++ [c]) = num a * 256 + c := by simp [num]

set_option maxRecDepth 100000 in
set_option maxHeartbeats 800000 in
theorem num_fine (R m n c : Nat) (A : Option Addr) (bs : List Int) (w : World) (hR : RdrAt w R (.slice A n c) .nilIface) (hrd : RdB w A n bs) (hB : IsB bs) (hm : 1 ≤ m) (hm7 : m ≤ 7) (hmn : m ≤ n) (hnc : n ≤ c) (hRA : ∀ a, A = some a → a.block ≠ R) :
    Calls Tryd.prog 45 #[.pointer (some ⟨R, 0, none⟩), .int .i64 m] w fun e w' => e = .returned (.int .u64 (num (bs.take m))) ∧ Taken w w' R m n c A := by
  have HR := bx hR; have HRD := bx hrd; have HB := bx hB; have HRA := bx hRA
  have hmin : min (m : Int) 8 = m := by omega
  clear hR hrd hB hRA
  go_enter Tryd.func45, Tryd.ntmps45
  go_wp2_with fail
  refine (take_fine R m n c A _ HR.out hm hmn hnc).mono ?_
  rintro e w1 ⟨rfl, hT⟩
  have HT := bx hT
  obtain ⟨A', hA', hw1⟩ := hT
  obtain ⟨b, o, rfl, hb, hcells⟩ := HRD.out.2 (by omega)
  have hne : b ≠ R := HRA.out _ rfl
  have hc1 : ∀ j, j < m → w1.cell? ⟨b, o + j, none⟩ = some (.int .u8 (bs.getD j 0)) := fun j hj => by
    rw [hw1, World.cell?_setCell_far _ _ _ _ (fun e => hne e.symm)]
    exact hcells j (by omega)
  have HC := bx hc1
  clear hcells hc1 hw1 hA'
  go_wp2_with fail
  go_loopw [7, 19] (fun v i wr => ∃ j : Nat, j ≤ m ∧ v = .int .u64 (num (bs.take j)) ∧ i = .int .i64 j ∧ wr = w1) (fun _ i _ => m - (intOf i).toNat)
  case atStart => exact ⟨0, by omega, rfl, rfl, rfl⟩
  case round =>
    obtain ⟨j, hj, rfl, rfl, hw⟩ := hrel
    have HW := bx hw
    clear hw
    by_cases hlt : j < m
    · have hcj : wr.cell? ⟨b, o + j, none⟩ = some (.int .u8 (bs.getD j 0)) := by rw [HW.out]; exact HC.out j hlt
      have hbd := num_bounds (bs.take j) 0 0 (isB_take HB.out j) (Int.le_refl _) (by decide)
      have hl : (bs.take j).length ≤ 6 := by rw [List.length_take]; omega
      have hbj := HB.out j
      generalize hcje : bs.getD j 0 = cj at *
      have HCJ := bx hcje
      clear hcje
      generalize hnu : num (bs.take j) = nu at *
      have hnu2 : 0 ≤ nu ∧ nu < 281474976710656 := by
        rw [← hnu]
        refine ⟨hbd.1, Int.lt_of_lt_of_le hbd.2 ?_⟩
        rw [Nat.zero_add]
        have hp : (256 : Int) ^ (bs.take j).length ≤ (256 : Int) ^ 6 := by exact_mod_cast Nat.pow_le_pow_right (by decide : 256 > 0) hl
        exact Int.le_trans hp (by decide)
      have HNU := bx hnu
      have hor := or_byte (x := nu) (c := cj) (by omega) (by omega) hbj.1 hbj.2
      have hjl : j < bs.length := by rw [HRD.out.1]; omega
      have hstep : Bx (num (bs.take (j + 1)) = nu * 256 + cj) := ⟨by
        rw [List.take_add_one, List.getElem?_eq_getElem hjl]
        show num (bs.take j ++ [bs[j]]) = _
        rw [num_append, hnu]
        have e := HCJ.out
        rw [List.getD_eq_getElem?_getD, List.getElem?_eq_getElem hjl] at e
        simp only [Option.getD_some] at e
        rw [e]⟩
      clear hbd hl hnu hjl
      obtain ⟨hn1, hn2⟩ := hnu2
      obtain ⟨hb1, hb2⟩ := hbj
      go_wp2_with fail
      exact ⟨⟨j + 1, by omega, by rw [hstep.out], by go_num, HW.out⟩, by simp [intOf]; omega⟩
    · obtain rfl : j = m := by omega
      go_wp2_with fail
      go_ret
      exact ⟨rfl, by rw [HW.out]; exact HT.out⟩
end Go.Proofs.YtoompcgdhokdlaaDoor

set_option linter.unusedSimpArgs false
set_option linter.unusedVariables false
namespace Go.Proofs.YtoompcgdhokdlaaDoor
open Go.RowKit

def wrongV (bad : Int) : Value := if bad = 0 then .nilIface else .iface 36 (.int .i64 bad)
/-- A reader in block R: the bytes that are left (in a block from lo on, ahead of R); what is wrong (0: nothing). -/
def RdrL (lo : Nat) (w : World) (R : Nat) (bs : List Int) (bad : Int) : Prop :=
  ∃ A c, RdrAt w R (.slice A bs.length c) (wrongV bad) ∧ RdB w A bs.length bs ∧ bs.length ≤ c ∧ (A = none → c = 0) ∧ (∀ a, A = some a → lo ≤ a.block ∧ a.block < R)
def Rdr (w : World) (R : Nat) (bs : List Int) (bad : Int) : Prop := RdrL 0 w R bs bad
variable {lo : Nat}
theorem RdrL.lt {w : World} {R : Nat} {bs : List Int} {bad : Int} (h : RdrL lo w R bs bad) : R < w.heap.size := by
  obtain ⟨A, c, h1, _⟩ := h
  exact blk_lt h1
theorem RdrL.kept {w w' : World} {R : Nat} {bs : List Int} {bad : Int} (h : RdrL lo w R bs bad) (hb : Below w.heap.size w w') : RdrL lo w' R bs bad := by
  obtain ⟨A, c, h1, h2, h3, h4, h5⟩ := h
  exact ⟨A, c, (hb.block R (blk_lt h1)).trans h1, h2.below hb, h3, h4, h5⟩
theorem RdrL.base {w : World} {R : Nat} {bs : List Int} {bad : Int} (h : RdrL lo w R bs bad) : Rdr w R bs bad := by
  obtain ⟨A, c, h1, h2, h3, h4, h5⟩ := h
  exact ⟨A, c, h1, h2, h3, h4, fun a ha => ⟨Nat.zero_le _, (h5 a ha).2⟩⟩
theorem Rdr.lt {w : World} {R : Nat} {bs : List Int} {bad : Int} (h : Rdr w R bs bad) : R < w.heap.size := RdrL.lt h
theorem Rdr.kept {w w' : World} {R : Nat} {bs : List Int} {bad : Int} (h : Rdr w R bs bad) (hb : Below w.heap.size w w') : Rdr w' R bs bad := RdrL.kept h hb
def rShut (bad m : Int) : Prop := m < 1 ∨ bad ≠ 0
instance (bad m : Int) : Decidable (rShut bad m) := inferInstanceAs (Decidable (_ ∨ _))
def rOut (bs : List Int) (bad m : Int) : List Int := if rShut bad m then [] else if (bs.length : Int) < m then [] else bs.take m.toNat
def rRest (bs : List Int) (bad m : Int) : List Int := if rShut bad m then bs else if (bs.length : Int) < m then [] else bs.drop m.toNat
def rBad (bs : List Int) (bad m : Int) : Int := if rShut bad m then bad else if (bs.length : Int) < m then 10 else 0
theorem rOut_isB {bs : List Int} (h : IsB bs) (bad m : Int) : IsB (rOut bs bad m) := by
  unfold rOut
  split
  · exact isB_nil
  · split
    · exact isB_nil
    · exact isB_take h _
theorem rRest_isB {bs : List Int} (h : IsB bs) (bad m : Int) : IsB (rRest bs bad m) := by
  unfold rRest
  split
  · exact h
  · split
    · exact isB_nil
    · exact isB_drop h _
theorem rOut_le (bs : List Int) (bad m : Int) : (rOut bs bad m).length ≤ bs.length := by
  unfold rOut
  split
  · exact Nat.zero_le _
  · split
    · exact Nat.zero_le _
    · rw [List.length_take]; exact Nat.min_le_right _ _
theorem rRest_le (bs : List Int) (bad m : Int) : (rRest bs bad m).length ≤ bs.length := by
  unfold rRest
  split
  · exact Nat.le_refl _
  · split
    · exact Nat.zero_le _
    · rw [List.length_drop]; exact Nat.sub_le _ _
/-- Of the blocks that lay there R alone is written. -/
def OnlyR (R : Nat) (w w' : World) : Prop := Only (fun k => k = R) w w'
theorem onlyR_set {w : World} {R j : Nat} (v : Value) : OnlyR R w (w.setCell ⟨R, j, none⟩ v) := Only.setCell (S := fun k => k = R) (Only.refl _ _) (p := ⟨R, j, none⟩) rfl v
theorem rdB_set {w : World} {R j : Nat} {v : Value} {A : Option Addr} {n : Nat} {bs : List Int} (h : RdB w A n bs) (hR : ∀ a, A = some a → a.block ≠ R) : RdB (w.setCell ⟨R, j, none⟩ v) A n bs :=
  ⟨h.1, fun hn => by
    obtain ⟨b, o, rfl, hb, hc⟩ := h.2 hn
    have hne : b ≠ R := hR _ rfl
    exact ⟨b, o, rfl, by simpa [World.setCell] using hb, fun j hj => by rw [World.cell?_setCell_far _ _ _ _ (fun e => hne e.symm)]; exact hc j hj⟩⟩
def rOk (bs : List Int) (bad m : Int) : Bool := !(decide (rShut bad m) || decide ((bs.length : Int) < m))
set_option maxRecDepth 100000 in
theorem rfail_any (w : World) (R : Nat) (v e : Value) (code : Int) (hR : RdrAt w R v e) (hc : code ≠ 0) :
    Calls Tryd.prog 68 #[.pointer (some ⟨R, 0, none⟩), .int .i64 code] w fun e w' => e = .returned (.tuple #[]) ∧ RdrL lo w' R [] code ∧ OnlyR R w w' := by
  have c0 : w.cell? ⟨R, 0, none⟩ = some v := blk_cell hR rfl
  have c1 : w.cell? ⟨R, 1, none⟩ = some e := blk_cell hR rfl
  have f0 : w.frozen? ⟨R, 0, none⟩ = false := blk_frozen 0 hR
  have f1 : w.frozen? ⟨R, 1, none⟩ = false := blk_frozen 1 hR
  have HR := bx hR
  clear hR
  go_enter Tryd.func68, Tryd.ntmps68
  go_wp2_with fail
  have u0 := upd_cell HR.out (j := 0) (.slice none 0 0)
  have u1 := upd_cell u0.same (j := 1) (.iface 36 (.int .i64 code))
  refine bodyPost_end (results_none rfl _ _ _) rfl ⟨rfl, ⟨none, 0, ?_, ⟨rfl, fun h => absurd h (by decide)⟩, Nat.le_refl _, fun _ => rfl, (fun a ha => by cases ha)⟩, Only.upd (S := fun k => k = R) (Only.upd (S := fun k => k = R) (Only.refl _ _) u0 rfl) u1 rfl⟩
  rw [wrongV, if_neg hc]
  exact u1.same
def Taken2 (w w' : World) (R m n c : Nat) (A : Option Addr) : Prop := ∃ A', ((c = m ∧ A' = A) ∨ A' = A.map (·.add m)) ∧ w' = w.setCell ⟨R, 0, none⟩ (.slice A' (n - m) (c - m))
set_option maxRecDepth 100000 in
set_option maxHeartbeats 400000 in
theorem take_fine2 (R m n c : Nat) (A : Option Addr) (w : World) (hR : RdrAt w R (.slice A n c) .nilIface) (hm : 1 ≤ m) (hmn : m ≤ n) (hnc : n ≤ c) :
    Calls Tryd.prog 65 #[.pointer (some ⟨R, 0, none⟩), .int .i64 m] w fun e w' => e = .returned (.tuple #[.slice A m m, .bool true]) ∧ Taken2 w w' R m n c A := by
  have c0 : w.cell? ⟨R, 0, none⟩ = some (.slice A n c) := blk_cell hR rfl
  have c1 : w.cell? ⟨R, 1, none⟩ = some .nilIface := blk_cell hR rfl
  have f0 : w.frozen? ⟨R, 0, none⟩ = false := blk_frozen 0 hR
  have HR := bx hR
  have hm0 : ¬ ((m : Int) < 1) := by omega
  have hmn' : ¬ ((n : Int) < m) := by omega
  clear hR
  go_enter Tryd.func65, Tryd.ntmps65
  go_wp2_with go_in
  · go_ret2
    exact ⟨rfl, A, .inl ⟨rfl, rfl⟩, by rw [Nat.sub_self]⟩
  · go_ret2
    exact ⟨rfl, _, .inr rfl, rfl⟩
def TakeOut (lo : Nat) (w : World) (R : Nat) (bs : List Int) (bad m : Int) (e : Ending) (w' : World) : Prop := ∃ A c, e = .returned (.tuple #[.slice A (rOut bs bad m).length c, .bool (rOk bs bad m)]) ∧ RdB w' A (rOut bs bad m).length (rOut bs bad m) ∧ (A = none → c = 0) ∧ (rOut bs bad m).length ≤ c ∧ (∀ a, A = some a → a.block ≠ R) ∧ RdrL lo w' R (rRest bs bad m) (rBad bs bad m) ∧ OnlyR R w w'
set_option maxRecDepth 100000 in
set_option maxHeartbeats 1000000 in
theorem rtake_any (w : World) (R : Nat) (bs : List Int) (bad m : Int) (h : RdrL lo w R bs bad) (hbig : bs.length ≤ 1152921504606846976) :
    Calls Tryd.prog 65 #[.pointer (some ⟨R, 0, none⟩), .int .i64 m] w fun e w' => TakeOut lo w R bs bad m e w' := by
  obtain ⟨A, c, hR, hrd, hnc, hnil, hne⟩ := h
  have c0 : w.cell? ⟨R, 0, none⟩ = some (.slice A bs.length c) := blk_cell hR rfl
  have c1 : w.cell? ⟨R, 1, none⟩ = some (wrongV bad) := blk_cell hR rfl
  have f0 : w.frozen? ⟨R, 0, none⟩ = false := blk_frozen 0 hR
  have f1 : w.frozen? ⟨R, 1, none⟩ = false := blk_frozen 1 hR
  have HR := bx hR; have HRD := bx hrd; have HNC := bx hnc; have HNIL := bx hnil; have HNE := bx hne
  clear hR hrd hnil hne
  by_cases hs : rShut bad m
  · have HO : Bx (rOut bs bad m = []) := ⟨by rw [rOut, if_pos hs]⟩
    have HQ : Bx (rRest bs bad m = bs) := ⟨by rw [rRest, if_pos hs]⟩
    have HW : Bx (rBad bs bad m = bad) := ⟨by rw [rBad, if_pos hs]⟩
    have HD : Bx (rOk bs bad m = false) := ⟨by simp [rOk, hs]⟩
    by_cases h1 : m < 1
    · clear hs
      go_enter Tryd.func65, Tryd.ntmps65
      go_wp2_with go_in
      go_ret2
      unfold TakeOut
      rw [HO.out, HQ.out, HW.out, HD.out]
      exact ⟨none, 0, rfl, ⟨rfl, fun h => absurd h (by decide)⟩, fun _ => rfl, Nat.le_refl _, (fun a ha => by cases ha), ⟨A, c, HR.out, HRD.out, HNC.out, HNIL.out, HNE.out⟩, Only.refl _ _⟩
    · have h2 : bad ≠ 0 := hs.resolve_left h1
      have e1 : wrongV bad = .iface 36 (.int .i64 bad) := by rw [wrongV, if_neg h2]
      rw [e1] at c1
      clear hs h2 e1
      go_enter Tryd.func65, Tryd.ntmps65
      go_wp2_with go_in
      go_ret2
      unfold TakeOut
      rw [HO.out, HQ.out, HW.out, HD.out]
      exact ⟨none, 0, rfl, ⟨rfl, fun h => absurd h (by decide)⟩, fun _ => rfl, Nat.le_refl _, (fun a ha => by cases ha), ⟨A, c, HR.out, HRD.out, HNC.out, HNIL.out, HNE.out⟩, Only.refl _ _⟩
  · have h1 : ¬ m < 1 := fun h => hs (.inl h)
    have h2 : bad = 0 := Classical.byContradiction fun h => hs (.inr h)
    subst h2
    have e1 : wrongV 0 = .nilIface := rfl
    rw [e1] at c1
    by_cases hl : (bs.length : Int) < m
    · have HO : Bx (rOut bs 0 m = []) := ⟨by rw [rOut, if_neg hs, if_pos hl]⟩
      have HQ : Bx (rRest bs 0 m = []) := ⟨by rw [rRest, if_neg hs, if_pos hl]⟩
      have HW : Bx (rBad bs 0 m = 10) := ⟨by rw [rBad, if_neg hs, if_pos hl]⟩
      have HD : Bx (rOk bs 0 m = false) := ⟨by simp [rOk, hl]⟩
      clear hs e1
      go_enter Tryd.func65, Tryd.ntmps65
      go_wp2_with (first
        | (go_at_call 68; refine (rfail_any (lo := lo) w R _ _ 10 HR.out (by decide)).mono ?_; rintro e w1 ⟨rfl, hR1, ho1⟩)
        | go_in)
      go_ret2
      unfold TakeOut
      rw [HO.out, HQ.out, HW.out, HD.out]
      exact ⟨none, 0, rfl, ⟨rfl, fun h => absurd h (by decide)⟩, fun _ => rfl, Nat.le_refl _, (fun a ha => by cases ha), hR1, ho1⟩
    · obtain ⟨k, rfl⟩ : ∃ k : Nat, m = k := ⟨m.toNat, by omega⟩
      have HO : Bx (rOut bs 0 (k : Int) = bs.take k) := ⟨by rw [rOut, if_neg hs, if_neg hl]; rfl⟩
      have HQ : Bx (rRest bs 0 (k : Int) = bs.drop k) := ⟨by rw [rRest, if_neg hs, if_neg hl]; rfl⟩
      have HW : Bx (rBad bs 0 (k : Int) = 0) := ⟨by rw [rBad, if_neg hs, if_neg hl]⟩
      have HD : Bx (rOk bs 0 (k : Int) = true) := ⟨by simp only [rOk, decide_eq_false hs, decide_eq_false hl]; rfl⟩
      have HL : Bx ((bs.take k).length = k) := ⟨by rw [List.length_take]; omega⟩
      have hkn : k ≤ bs.length := by omega
      have hk1 : 1 ≤ k := by omega
      clear hs e1
      refine (take_fine2 R k bs.length c A w HR.out hk1 hkn hnc).mono ?_
      rintro e w' ⟨rfl, A', hA', rfl⟩
      unfold TakeOut
      rw [HO.out, HQ.out, HW.out, HD.out, HL.out]
      obtain ⟨b, o, rfl, hb, hcell⟩ := HRD.out.2 (by omega)
      have hne := HNE.out _ rfl
      refine ⟨_, k, rfl, rdB_set (rdB_take k HRD.out hkn) (fun a ha => Nat.ne_of_lt (HNE.out a ha).2), (fun h => by cases h), Nat.le_refl _, (fun a ha => Nat.ne_of_lt (HNE.out a ha).2), ?_, onlyR_set _⟩
      refine ⟨A', c - k, ?_, ?_, by rw [List.length_drop]; omega, ?_, ?_⟩
      · rw [List.length_drop]; exact (upd_cell HR.out (j := 0) _).same
      · rcases hA' with ⟨h, h'⟩ | h
        · have : bs.length - k = 0 := by omega
          rw [List.length_drop, this, List.drop_of_length_le (by omega)]
          exact ⟨rfl, fun h => absurd h (by decide)⟩
        · subst h
          have := rdB_sub k (bs.length - k) HRD.out (by omega)
          rw [List.take_of_length_le (by rw [List.length_drop]; omega)] at this
          rw [List.length_drop]
          have e : (Option.map (fun x => Addr.add x k) (some (⟨b, o, none⟩ : Addr))) = some ⟨b, o + k, none⟩ := by rw [Option.map_some, addr_add]
          rw [e]
          exact rdB_set this (fun a ha => by cases ha; exact Nat.ne_of_lt hne.2)
      · rcases hA' with ⟨h, h'⟩ | h
        · intro _; omega
        · intro h0; rw [h] at h0; cases h0
      · intro a ha
        rcases hA' with ⟨h, h'⟩ | h
        · rw [h'] at ha; cases ha; exact hne
        · rw [h, Option.map_some, addr_add] at ha; cases ha; exact hne
/-- What Raw hands back is its caller's own. -/
theorem OnlyR.below {R : Nat} {w w' : World} (h : OnlyR R w w') {B : Nat} (hB : B ≤ w.heap.size) (hR : B ≤ R) : Below B w w' := Only.below h hB (fun k hk => hk ▸ hR)
set_option maxRecDepth 100000 in
set_option maxHeartbeats 400000 in
theorem raw_any (w : World) (R : Nat) (bs : List Int) (bad m : Int) (h : RdrL lo w R bs bad) (hbig : bs.length ≤ 35184372088832) :
    Calls Tryd.prog 64 #[.pointer (some ⟨R, 0, none⟩), .int .i64 m] w fun e w' => ∃ v, e = .returned v ∧ OwB w' w.heap.size v (rOut bs bad m) ∧ RdrL lo w' R (rRest bs bad m) (rBad bs bad m) ∧ OnlyR R w w' := by
  have HC := bx (rtake_any w R bs bad m h (by omega))
  have HL := bx (rOut_le bs bad m)
  clear h
  go_enter Tryd.func64, Tryd.ntmps64
  go_wp2_with fail
  refine HC.out.mono ?_
  rintro e w1 ⟨A, c, rfl, hrd, hnil, hle, hne, hR, ho⟩
  have R1 := bx hrd; have N1 := bx hnil; have K1 := bx hR; have O1 := bx ho
  clear hrd hnil hle hne hR ho
  generalize rOk bs bad m = bb at *
  go_wp2_with fail
  refine (clone_any A _ c _ w1 R1.out N1.out (by have := HL.out; omega)).mono ?_
  rintro e w2 ⟨v, rfl, hv, hb⟩
  have V2 := bx (hv.base_le O1.out.size); have K2 := bx (K1.out.kept hb); have O2 : Bx (OnlyR R w w2) := ⟨Only.trans O1.out (only_of_below hb)⟩
  clear hv hb
  go_wp2_with fail
  go_ret
  exact ⟨v, rfl, V2.out, K2.out, O2.out⟩
end Go.Proofs.YtoompcgdhokdlaaDoor

set_option linter.unusedSimpArgs false
set_option linter.unusedVariables false
namespace Go.Proofs.YtoompcgdhokdlaaDoor
open Go.RowKit Go.Extern.Stop Go.Stop Go.Extern

theorem run_equalIn_iface_int {P : Program} (d : Nat) {ti tn : TypeId} {ms : Array (String × TypeId)} {i : TypeInfo} {k : IntKind} (a b : Int)
    (hi : P.underlying ti = some (.interface ms)) (hn : P.underlying tn = some (.int k)) (hinfo : P.info? tn = some i) (hcomp : i.comparable = true) (w : World) :
    (Op.equalIn (d + 2) ti (.iface tn (.int k a)) (.iface tn (.int k b))).run P w = .ok (a == b) w := by
  simp [Op.equalIn, run_underlying hi, run_underlying hn, typeInfo, hinfo, hcomp]
theorem run_eql_iface_int {P : Program} {ti tn : TypeId} {ms : Array (String × TypeId)} {i : TypeInfo} {k : IntKind} (a b : Int)
    (hi : P.underlying ti = some (.interface ms)) (hn : P.underlying tn = some (.int k)) (hinfo : P.info? tn = some i) (hcomp : i.comparable = true) (w : World) :
    (binOp .eql ti (.iface tn (.int k a)) (.iface tn (.int k b))).run P w = .ok (.bool (a == b)) w := by
  simp only [binOp]
  simp [Op.equal, Op.maxDepth, run_equalIn_iface_int 9998 a b hi hn hinfo hcomp w]
theorem errTypeOf (v : Value) (w : World) : (Extern.ReflectliteType.typeOf #[.iface 36 v]).run Tryd.prog w = .ok (.iface 140 (.agg #[.pointer (some ⟨3, 36, none⟩)])) w := by kernel_rfl
theorem errMethod (n : Nat) (v : Value) (w : World) : (Go.method (n + 1) 140 v "Comparable").run Tryd.prog w = .ok (122, v) w := by kernel_rfl
theorem errComparable (w : World) : ((Extern.ReflectliteType.method fun t => do Extern.Rtype.noPackHeld "Comparable" t; (fun a => Value.bool a.comparable) <$> typeInfo t) #[.agg #[.pointer (some ⟨3, 36, none⟩)]]).run Tryd.prog w = .ok (.bool true) w := by kernel_rfl
theorem errNoIs (v : Value) (xT : TypeId) (w : World) : (Instr.typeAssert (.iface 36 v) xT 142 true).run Tryd.prog w = .ok (.tuple #[.nilIface, .bool false]) w := run_typeAssert_lacksB Tryd.underlying142 (by kernel_rfl) (by kernel_rfl) v xT w
theorem errNoUnwrap (v : Value) (xT : TypeId) (w : World) : (Instr.typeAssert (.iface 36 v) xT 145 true).run Tryd.prog w = .ok (.tuple #[.nilIface, .bool false]) w := run_typeAssert_lacksB Tryd.underlying145 (by kernel_rfl) (by kernel_rfl) v xT w
theorem errNoUnwraps (v : Value) (xT : TypeId) (w : World) : (Instr.typeAssert (.iface 36 v) xT 147 true).run Tryd.prog w = .ok (.tuple #[.nilIface, .bool false]) w := run_typeAssert_lacksB Tryd.underlying147 (by kernel_rfl) (by kernel_rfl) v xT w
theorem errComp : (Tryd.prog.info? 36).map (·.comparable) = some true := by kernel_rfl
set_option maxRecDepth 100000 in
theorem is_int (a b : Int) (w : World) :
    Calls Tryd.prog 67 #[.iface 36 (.int .i64 a), .iface 36 (.int .i64 b)] w fun e w' => e = .returned (.bool (a == b)) ∧ w = w' := by
  have h8 := @run_callFunc_extern Tryd.prog 79 _ Extern.ReflectliteType.typeOf Tryd.func79 (by kernel_rfl) (by kernel_rfl) (by kernel_rfl) (by kernel_rfl)
  have h9 := @run_callFunc_extern Tryd.prog 122 _ (Extern.ReflectliteType.method fun t => do Extern.Rtype.noPackHeld "Comparable" t; pure (.bool (← typeInfo t).comparable)) Tryd.func122 (by kernel_rfl) (by kernel_rfl) (by kernel_rfl) (by kernel_rfl)
  have tT := errTypeOf
  have cT := errComparable
  have mR := errMethod
  have nE := errNoIs
  have uE := errNoUnwrap
  have vE := errNoUnwraps
  obtain ⟨i, hi, hcmp⟩ := Option.map_eq_some_iff.1 errComp
  have heq := fun w => run_eql_iface_int (P := Tryd.prog) a b Tryd.underlying106 Tryd.underlying36 hi hcmp w
  go_enter Tryd.func67, Tryd.ntmps67
  go_wp2
  refine wp_loop_rounds 1 ?_
  rw [rounds_succ]
  cases hab : a == b
  · simp only [hab] at heq
    have Hab := bx hab
    clear hab
    go_wp2
    go_ret
    exact ⟨by rw [Hab.out]; rfl, rfl⟩
  · simp only [hab] at heq
    have Hab := bx hab
    clear hab
    go_wp2
    go_ret
    exact ⟨by rw [Hab.out]; rfl, rfl⟩
end Go.Proofs.YtoompcgdhokdlaaDoor

set_option linter.unusedSimpArgs false
set_option linter.unusedVariables false
namespace Go.Proofs.YtoompcgdhokdlaaDoor
open Go.RowKit
variable {lo : Nat}

theorem rOut_m (bs : List Int) (bad : Int) (m : Nat) : (rOut bs bad m).length ≤ m := by
  unfold rOut
  split
  · exact Nat.zero_le _
  · split
    · exact Nat.zero_le _
    · rw [List.length_take, Int.toNat_natCast]; exact Nat.min_le_left _ _
theorem num_lt (l : List Int) (h : IsB l) (k : Nat) (hk : l.length ≤ k) : 0 ≤ num l ∧ num l < 256 ^ k := by
  have := num_bounds l 0 0 h (Int.le_refl _) (by decide)
  refine ⟨this.1, Int.lt_of_lt_of_le this.2 ?_⟩
  rw [Nat.zero_add]
  have h2 : ((256 ^ l.length : Nat) : Int) ≤ ((256 ^ k : Nat) : Int) := Int.ofNat_le.2 (Nat.pow_le_pow_right (by decide) hk)
  rwa [Int.natCast_pow, Int.natCast_pow] at h2
set_option maxRecDepth 100000 in
set_option maxHeartbeats 1000000 in
theorem rnum_any (w : World) (R : Nat) (bs : List Int) (bad : Int) (m : Nat) (h : RdrL lo w R bs bad) (hB : IsB bs) (h1 : 1 ≤ m) (h8 : m ≤ 8) (hbig : bs.length ≤ 1152921504606846976) :
    Calls Tryd.prog 45 #[.pointer (some ⟨R, 0, none⟩), .int .i64 m] w fun e w' => e = .returned (.int .u64 (num (rOut bs bad m))) ∧ RdrL lo w' R (rRest bs bad m) (rBad bs bad m) ∧ OnlyR R w w' := by
  have HC := bx (rtake_any w R bs bad m h hbig)
  have hl := rOut_m bs bad m
  have HOB := bx (rOut_isB hB bad m)
  have hmin : min (m : Int) 8 = m := by omega
  unfold TakeOut at HC
  generalize rOut bs bad m = os at *
  generalize rRest bs bad m = rs at *
  generalize rBad bs bad m = rb at *
  generalize rOk bs bad m = bb at *
  clear h
  go_enter Tryd.func45, Tryd.ntmps45
  go_wp2_with fail
  refine HC.out.mono ?_
  rintro e w1 ⟨A, c, rfl, hrd, hnil, hle, hne, hR, ho⟩
  have R1 := bx hrd; have K1 := bx hR; have O1 := bx ho
  clear hrd hnil hle hne hR ho HC
  go_wp2_with fail
  go_loopw [7, 19] (fun v i wr => ∃ j : Nat, j ≤ os.length ∧ v = .int .u64 (num (os.take j)) ∧ i = .int .i64 j ∧ w1 = wr) (fun _ i _ => os.length - (intOf i).toNat)
  case atStart => exact ⟨0, by omega, rfl, rfl, rfl⟩
  case round =>
    obtain ⟨j, hj, rfl, rfl, rfl⟩ := hrel
    by_cases hlt : j < os.length
    · obtain ⟨b, o, rfl, hb, hcells⟩ := R1.out.2 (by omega)
      have hcj := hcells j hlt
      have hbd := num_lt (os.take j) (isB_take HOB.out j) 7 (by rw [List.length_take]; omega)
      have hbj := HOB.out j
      have hstep : Bx (num (os.take (j + 1)) = num (os.take j) * 256 + os.getD j 0) := ⟨by
        rw [List.take_add_one, List.getElem?_eq_getElem hlt]
        show num (os.take j ++ [os[j]]) = _
        rw [num_append, List.getD_eq_getElem?_getD, List.getElem?_eq_getElem hlt]
        rfl⟩
      clear hcells
      generalize os.getD j 0 = cj at *
      generalize num (os.take j) = nu at *
      have hn2 : nu < 72057594037927936 := hbd.2
      have hn1 : 0 ≤ nu := hbd.1
      have hor := or_byte (x := nu) (c := cj) hn1 hn2 hbj.1 hbj.2
      obtain ⟨hb1, hb2⟩ := hbj
      clear hbd
      go_wp2_with fail
      exact ⟨⟨j + 1, by omega, by rw [hstep.out], by go_num, trivial⟩, by simp [intOf]; omega⟩
    · obtain rfl : j = os.length := by omega
      have HT : Bx (os.take os.length = os) := ⟨List.take_of_length_le (Nat.le_refl _)⟩
      rw [HT.out]
      go_wp2_with fail
      go_ret
      exact ⟨rfl, K1.out, O1.out⟩
/-- What Wrong tells. -/
def rWrong (bad : Int) : Int := if bad = 0 then 0 else if bad = 3 then 3 else 10
set_option maxRecDepth 100000 in
theorem rwrong_any (w : World) (R : Nat) (bs : List Int) (bad : Int) (h : RdrL lo w R bs bad) :
    Calls Tryd.prog 46 #[.pointer (some ⟨R, 0, none⟩)] w fun e w' => e = .returned (.int .i64 (rWrong bad)) ∧ w = w' := by
  obtain ⟨A, c, hR, _⟩ := h
  have c1 : w.cell? ⟨R, 1, none⟩ = some (wrongV bad) := blk_cell hR rfl
  clear hR
  by_cases h0 : bad = 0
  · subst h0
    have e1 : wrongV 0 = .nilIface := rfl
    rw [e1] at c1
    go_enter Tryd.func46, Tryd.ntmps46
    go_wp2_with go_in
    go_ret
    exact ⟨rfl, rfl⟩
  · have e1 : wrongV bad = .iface 36 (.int .i64 bad) := by rw [wrongV, if_neg h0]
    have HW : Bx (rWrong bad = if bad = 3 then 3 else 10) := ⟨by rw [rWrong, if_neg h0]⟩
    rw [e1] at c1
    by_cases h3 : bad = 3
    · have H3 : (bad == 3) = true := by simp [h3]
      have HV : Bx (rWrong bad = 3) := ⟨by rw [HW.out, if_pos h3]⟩
      clear h0 e1 HW h3
      rw [HV.out]
      go_enter Tryd.func46, Tryd.ntmps46
      go_wp2_with (first
        | (go_at_call 67; refine (is_int bad 3 _).mono ?_; rintro e w1 ⟨rfl, rfl⟩)
        | go_in)
      go_ret
      exact ⟨rfl, rfl⟩
    · have H3 : (bad == 3) = false := by simp [h3]
      have HV : Bx (rWrong bad = 10) := ⟨by rw [HW.out, if_neg h3]⟩
      clear h0 e1 HW h3
      rw [HV.out]
      go_enter Tryd.func46, Tryd.ntmps46
      go_wp2_with (first
        | (go_at_call 67; refine (is_int bad 3 _).mono ?_; rintro e w1 ⟨rfl, rfl⟩)
        | go_in)
      go_ret
      exact ⟨rfl, rfl⟩
/-- What Sized does. -/
def sOut (bs : List Int) (bad : Int) : List Int := if 65536 < num (rOut bs bad 4) then [] else rOut (rRest bs bad 4) (rBad bs bad 4) (num (rOut bs bad 4))
def sRest (bs : List Int) (bad : Int) : List Int := if 65536 < num (rOut bs bad 4) then [] else rRest (rRest bs bad 4) (rBad bs bad 4) (num (rOut bs bad 4))
def sBad (bs : List Int) (bad : Int) : Int := if 65536 < num (rOut bs bad 4) then 3 else rBad (rRest bs bad 4) (rBad bs bad 4) (num (rOut bs bad 4))
set_option maxRecDepth 100000 in
set_option maxHeartbeats 400000 in
theorem rsz_any (w : World) (R : Nat) (bs : List Int) (bad : Int) (h : RdrL lo w R bs bad) (hB : IsB bs) (hbig : bs.length ≤ 35184372088832) :
    Calls Tryd.prog 47 #[.pointer (some ⟨R, 0, none⟩)] w fun e w' => ∃ v, e = .returned v ∧ OwB w' w.heap.size v (sOut bs bad) ∧ RdrL lo w' R (sRest bs bad) (sBad bs bad) ∧ OnlyR R w w' := by
  have HC := bx (rnum_any w R bs bad 4 h hB (by decide) (by decide) (by omega))
  have hn := num_lt (rOut bs bad 4) (rOut_isB hB bad 4) 4 (rOut_m bs bad 4)
  have hn2 : num (rOut bs bad 4) < 4294967296 := hn.2
  have hn1 : 0 ≤ num (rOut bs bad 4) := hn.1
  have HL := bx (rRest_le bs bad 4)
  clear hn h
  by_cases hs : 65536 < num (rOut bs bad 4)
  · have H1 : Bx (sOut bs bad = []) := ⟨by rw [sOut, if_pos hs]⟩
    have H2 : Bx (sRest bs bad = []) := ⟨by rw [sRest, if_pos hs]⟩
    have H3 : Bx (sBad bs bad = 3) := ⟨by rw [sBad, if_pos hs]⟩
    rw [H1.out, H2.out, H3.out]
    have HC2 := HC.out
    rw [show ((4 : Nat) : Int) = 4 from rfl] at HC2
    generalize num (rOut bs bad 4) = q at *
    go_enter Tryd.func47, Tryd.ntmps47
    go_wp2_with fail
    refine HC2.mono ?_
    rintro e w1 ⟨rfl, hR, ho⟩
    obtain ⟨A1, c1, hR1, _⟩ := hR
    have K1 := bx hR1; have O1 := bx ho
    clear hR1 ho HC2
    go_wp2_with fail
    refine (rfail_any (lo := lo) w1 R _ _ 3 K1.out (by decide)).mono ?_
    rintro e w2 ⟨rfl, hR2, ho2⟩
    have K2 := bx hR2; have O2 : Bx (OnlyR R w w2) := ⟨Only.trans O1.out ho2⟩
    clear hR2 ho2
    go_wp2_with fail
    go_ret
    exact ⟨_, rfl, OwB.nil _ _, K2.out, O2.out⟩
  · have H1 : Bx (sOut bs bad = rOut (rRest bs bad 4) (rBad bs bad 4) (num (rOut bs bad 4))) := ⟨by rw [sOut, if_neg hs]⟩
    have H2 : Bx (sRest bs bad = rRest (rRest bs bad 4) (rBad bs bad 4) (num (rOut bs bad 4))) := ⟨by rw [sRest, if_neg hs]⟩
    have H3 : Bx (sBad bs bad = rBad (rRest bs bad 4) (rBad bs bad 4) (num (rOut bs bad 4))) := ⟨by rw [sBad, if_neg hs]⟩
    rw [H1.out, H2.out, H3.out]
    have HC2 := HC.out
    rw [show ((4 : Nat) : Int) = 4 from rfl] at HC2
    clear HC H1 H2 H3
    generalize num (rOut bs bad 4) = q at *
    have hlen : (rRest bs bad 4).length ≤ 35184372088832 := by have := HL.out; omega
    have HLEN := bx hlen
    clear hlen HL
    generalize rRest bs bad 4 = rs at *
    generalize rBad bs bad 4 = rb at *
    go_enter Tryd.func47, Tryd.ntmps47
    go_wp2_with fail
    refine HC2.mono ?_
    rintro e w1 ⟨rfl, hR, ho⟩
    have K1 := bx hR; have O1 := bx ho
    clear hR ho HC2
    go_wp2_with fail
    refine (raw_any w1 R rs rb q K1.out HLEN.out).mono ?_
    rintro e w2 ⟨v, rfl, hv, hR2, ho2⟩
    have V2 := bx (hv.base_le O1.out.size); have K2 := bx hR2; have O2 : Bx (OnlyR R w w2) := ⟨Only.trans O1.out ho2⟩
    clear hv hR2 ho2
    go_wp2_with fail
    go_ret
    exact ⟨v, rfl, V2.out, K2.out, O2.out⟩
theorem rnewL_any (A : Option Addr) (n cap : Nat) (bs : List Int) (w : World) (hrd : RdB w A n bs) (hnil : A = none → cap = 0) (hbig : n ≤ 35184372088832) :
    Calls Tryd.prog 43 #[.slice A n cap] w fun e w' => ∃ R, e = .returned (.pointer (some ⟨R, 0, none⟩)) ∧ RdrL w.heap.size w' R bs 0 ∧ w.heap.size ≤ R ∧ Below w.heap.size w w' := by
  refine (rnew_any A n cap bs w hrd hnil hbig).mono ?_
  rintro e w' ⟨R, A1, c1, rfl, h1, h2, h3, h4, h5, h6, h7⟩
  have hl := hrd.1
  subst hl
  exact ⟨R, rfl, ⟨A1, c1, h1, h2, h3, h4, h5⟩, h6, h7⟩
theorem rnewR_any (A : Option Addr) (n cap : Nat) (bs : List Int) (w : World) (hrd : RdB w A n bs) (hnil : A = none → cap = 0) (hbig : n ≤ 35184372088832) :
    Calls Tryd.prog 43 #[.slice A n cap] w fun e w' => ∃ R, e = .returned (.pointer (some ⟨R, 0, none⟩)) ∧ Rdr w' R bs 0 ∧ w.heap.size ≤ R ∧ Below w.heap.size w w' := by
  refine (rnewL_any A n cap bs w hrd hnil hbig).mono ?_
  rintro e w' ⟨R, rfl, h1, h2, h3⟩
  exact ⟨R, rfl, h1.base, h2, h3⟩
end Go.Proofs.YtoompcgdhokdlaaDoor

set_option linter.unusedSimpArgs false
set_option linter.unusedVariables false
namespace Go.Proofs.YtoompcgdhokdlaaDoor
open Go.RowKit

/-- A string's bytes. -/
def bytesOf (s : ByteArray) : List Int := s.data.toList.map fun b => (b.toNat : Int)
theorem bytesOf_length (s : ByteArray) : (bytesOf s).length = s.size := by simp [bytesOf]
theorem bytesOf_get (s : ByteArray) (j : Nat) (h : j < s.size) : (bytesOf s).getD j 0 = (s[j].toNat : Int) := by
  have h' : j < s.data.size := h
  rw [bytesOf, List.getD_eq_getElem?_getD, List.getElem?_map, Array.getElem?_toList, Array.getElem?_eq_getElem h']
  rfl
theorem bytesOf_isB (s : ByteArray) : IsB (bytesOf s) := fun j => by
  by_cases h : j < s.size
  · rw [bytesOf_get s j h]
    have := s[j].toNat_lt
    omega
  · rw [List.getD_eq_getElem?_getD, List.getElem?_eq_none (by rw [bytesOf_length]; omega)]
    decide
theorem strApp (a b : List Int) : strOfNums (a ++ b) = strOfNums a ++ strOfNums b := by
  apply ByteArray.ext
  apply Array.toList_inj.1
  rw [strOfNums_data, ByteArray.data_append, Array.toList_append, strOfNums_data, strOfNums_data, List.map_append]
theorem strLen (a : List Int) : (strOfNums a).size = a.length := by
  have := congrArg List.length (strOfNums_data a)
  rw [List.length_map, Array.length_toList] at this
  exact this
theorem strExt (b : List Int) (i j : Nat) : (strOfNums b).extract i j = strOfNums ((b.take j).drop i) := by
  apply ByteArray.ext
  apply Array.toList_inj.1
  rw [ByteArray.data_extract, Array.toList_extract, strOfNums_data, strOfNums_data, List.map_drop, List.map_take]
  simp only [List.extract, List.drop_take]
theorem bytesOf_str (a : List Int) (h : IsB a) : bytesOf (strOfNums a) = a := by
  rw [bytesOf, strOfNums_data, List.map_map]
  apply List.ext_getElem (by simp)
  intro j h1 h2
  have := h j
  rw [List.getD_eq_getElem?_getD, List.getElem?_eq_getElem h2] at this
  simp at this ⊢
  omega
set_option maxRecDepth 100000 in
set_option maxHeartbeats 1000000 in
theorem rput_any (bs : List Int) (v : Int) (n : Nat) (h1 : 1 ≤ n) (h8 : n ≤ 8) (hv0 : 0 ≤ v) (hv1 : v < 18446744073709551616) (hbig : bs.length ≤ 1152921504606846976) (w : World) :
    Calls Tryd.prog 35 #[.string (strOfNums bs), .int .u64 v, .int .i64 n] w fun e w' => e = .returned (.string (strOfNums (bs ++ be v n))) ∧ Below w.heap.size w w' := by
  have hsz : (strOfNums bs).size = bs.length := strLen bs
  have g1 : ¬ (n : Int) < 1 := by omega
  have g2 : ¬ (8 : Int) < n := by omega
  have HF : Bx (strOfNums bs ++ strOfNums (be v n) = strOfNums (bs ++ be v n)) := ⟨(strApp _ _).symm⟩
  have HF2 : Bx ((strOfNums (be v n)).size = n) := ⟨by rw [strLen, be_length]⟩
  generalize strOfNums bs = s0 at *
  go_enter Tryd.func35, Tryd.ntmps35
  go_wp2_with fail
  go_loopw [7, 8, 1] (fun o q x wr => ∃ i : Nat, i ≤ n ∧ q = .int .i64 i ∧ o = .string (strOfNums (be v i)) ∧ x = .int .u64 (v / 2 ^ (8 * i)) ∧ Below w.heap.size w wr) (fun _ q _ _ => n - (intOf q).toNat)
  case atStart => exact ⟨0, Nat.zero_le _, rfl, rfl, by simp, Below.refl _ _⟩
  case round =>
    obtain ⟨i, hi, rfl, rfl, rfl, hb⟩ := hrel
    have BR := bx hb
    clear hb
    have hs2 : (strOfNums (be v i)).size = i := by rw [strLen, be_length]
    by_cases hlt : i < n
    · have hlt' : (i : Int) < n := by omega
      have cv : ∀ b : Int, (convert 33 9 (.slice (some ⟨wr.heap.size, 0, none⟩) 1 1)).run Tryd.prog (wr.alloc (.cells #[.int .u8 b] 5)) = .ok (.string (strOfNums [b])) (wr.alloc (.cells #[.int .u8 b] 5)) := fun b => str_of (rdB_made wr 5 [b]) 1
      have hs3 : ∀ b : Int, (strOfNums [b]).size = 1 := fun b => strLen [b]
      have HN : Bx (strOfNums [v / 2 ^ (8 * i) % 256] ++ strOfNums (be v i) = strOfNums (be v (i + 1))) := ⟨by rw [← strApp]; rfl⟩
      have x0 : 0 ≤ v / 2 ^ (8 * i) := Int.ediv_nonneg hv0 (Int.pow_nonneg (by decide))
      have HX : Bx (v / 2 ^ (8 * i) / 256 = v / 2 ^ (8 * (i + 1))) := ⟨by rw [Int.ediv_ediv_of_nonneg (Int.pow_nonneg (by decide)), show 8 * (i + 1) = 8 * i + 8 by omega, Int.pow_add]; rfl⟩
      have HX1 : Bx (v / 2 ^ (8 * i) < 18446744073709551616) := ⟨Int.lt_of_le_of_lt (Int.ediv_le_self _ hv0) hv1⟩
      generalize v / 2 ^ (8 * i) = X at *
      have HX2 : Bx (IntKind.u64.wrap (X.tdiv 256) = X / 256) := ⟨by
        rw [Int.tdiv_eq_ediv_of_nonneg x0]
        have := HX1.out
        unfold IntKind.wrap
        simp [IntKind.bits, IntKind.signed]
        omega⟩
      generalize strOfNums (be v i) = s' at *
      go_wp2_with fail
      rw [HN.out, HX2.out]
      exact ⟨⟨i + 1, by omega, by go_num, rfl, by rw [← HX.out], BR.out.alloc BR.out.size _⟩, by simp [intOf]; omega⟩
    · obtain rfl : i = n := by omega
      have hlt' : ¬ (i : Int) < i := by omega
      clear HF2
      generalize strOfNums (be v i) = s' at *
      go_wp2_with fail
      go_ret
      exact ⟨congrArg (fun x => Ending.returned (.string x)) HF.out, BR.out⟩
set_option maxRecDepth 100000 in
theorem rsized_any (bs xs : List Int) (hbig : bs.length ≤ 1152921504606846976) (hbig2 : xs.length ≤ 1152921504606846976) (w : World) :
    Calls Tryd.prog 38 #[.string (strOfNums bs), .string (strOfNums xs)] w fun e w' => e = .returned (.string (strOfNums (bs ++ be xs.length 4 ++ xs))) ∧ Below w.heap.size w w' := by
  have hsz : (strOfNums xs).size = xs.length := strLen xs
  have HC := bx (rput_any bs xs.length 4 (by decide) (by decide) (by omega) (by omega) hbig)
  have HF : Bx (strOfNums (bs ++ be xs.length 4) ++ strOfNums xs = strOfNums (bs ++ be xs.length 4 ++ xs)) := ⟨(strApp _ _).symm⟩
  have hs4 : (strOfNums (bs ++ be xs.length 4)).size = bs.length + 4 := by rw [strLen, List.length_append, be_length]
  generalize strOfNums bs = s0 at *
  generalize strOfNums xs = s1 at *
  generalize strOfNums (bs ++ be xs.length 4) = s2 at *
  go_enter Tryd.func38, Tryd.ntmps38
  go_wp2_with fail
  refine (HC.out w).mono ?_
  rintro e w1 ⟨rfl, hb1⟩
  have B1 := bx hb1
  clear hb1
  go_wp2_with fail
  go_ret
  exact ⟨congrArg (fun x => Ending.returned (.string x)) HF.out, B1.out⟩
end Go.Proofs.YtoompcgdhokdlaaDoor

set_option linter.unusedSimpArgs false
set_option linter.unusedVariables false
namespace Go.Proofs.YtoompcgdhokdlaaDoor
open Go.RowKit

/-- n structs of s cells each lie behind A. -/
def RowAt (w : World) (A : Option Addr) (n s : Nat) (f : Nat → List Value) : Prop := 0 < n → ∃ b o, A = some ⟨b, o, none⟩ ∧ b < w.heap.size ∧ ∀ j, j < n → w.rangeAt b (o + j * s) (f j)
theorem range_below {w w' : World} {b o : Nat} {l : List Value} (h : w.rangeAt b o l) (hb : Below w.heap.size w w') (hl : b < w.heap.size) : w'.rangeAt b o l := fun j v hv => (hb.cell (p := ⟨b, o + j, none⟩) hl).trans (h j v hv)
theorem RowAt.below {w w' : World} {A : Option Addr} {n s : Nat} {f : Nat → List Value} (h : RowAt w A n s f) (hb : Below w.heap.size w w') : RowAt w' A n s f := fun hn => by
  obtain ⟨b, o, e, hl, hc⟩ := h hn
  exact ⟨b, o, e, Nat.lt_of_lt_of_le hl hb.size, fun j hj => range_below (hc j hj) hb hl⟩
theorem RowAt.at {w : World} {A : Option Addr} {n s : Nat} {f : Nat → List Value} (h : RowAt w A n s f) {j : Nat} (hj : j < n) : ∃ b o, A = some ⟨b, o, none⟩ ∧ b < w.heap.size ∧ ∀ w', Below w.heap.size w w' → w'.rangeAt b (o + j * s) (f j) := by
  obtain ⟨b, o, e, hl, hc⟩ := h (by omega)
  exact ⟨b, o, e, hl, fun w' hb => range_below (hc j hj) hb hl⟩
theorem quietAt_load_row {P : Program} {o : Oper} {a : Act} {C : World → Prop} {w : World} (ty : TypeId) (x : Operand) (ho : o.op = .load ty x) {b off : Nat} (hx : a.eval x = .pointer (some ⟨b, off, none⟩)) {l : List Value} {d : TypeDesc} (hc : w.rangeAt b off l)
    (hu : P.underlying ty = some d) (hd : d.isRow = true) (hi : (P.info? ty).map (·.size) = some l.length) : o.quietAt P a C w (.agg l.toArray) := by
  unfold Oper.quietAt execOp
  simp only [ho, hx, Instr.loadAt, Instr.sureAddr, Sem.run_bind, Sem.run_pure, Result.andThen_ok, run_loadVar_mid w b off ty _ d hc hu hd hi]
  exact ⟨rfl, rfl⟩
def u8s (l : List Int) : List Value := l.map (Value.int .u8)
theorem u8s_length (l : List Int) : (u8s l).length = l.length := by simp [u8s]
/-- A row of structs of one's own. -/
def RowO (w : World) (base : Nat) (e : TypeId) (s : Nat) (v : Value) (n : Nat) : Prop := ∃ cs, w.ownsRow base e s v n cs
section
variable {w w' : World} {base : Nat} {e : TypeId} {s : Nat} {v : Value} {n : Nat}
theorem RowO.nil (w : World) (base : Nat) (e : TypeId) (s : Nat) : RowO w base e s (.slice none 0 0) 0 := ⟨[], World.ownsRow_nil _ _ _ _⟩
theorem RowO.alloc (h : RowO w base e s v n) (o : Obj) : RowO (w.alloc o) base e s v n := h.imp fun _ hc => World.ownsRow.alloc hc o
theorem RowO.same (h : RowO w base e s v n) (hs : ∀ k, base ≤ k → k < w.heap.size → w'.heap[k]? = w.heap[k]?) : RowO w' base e s v n := by
  obtain ⟨cs, h1, h2 | ⟨g, cap, cur, e', hg, hh, h2⟩⟩ := h
  · exact ⟨cs, h1, .inl h2⟩
  · exact ⟨cs, h1, .inr ⟨g, cap, cur, e', hg, (hs g hg (blk_lt hh)).trans hh, h2⟩⟩
theorem RowO.kept (h : RowO w base e s v n) (hb : Below w.heap.size w w') : RowO w' base e s v n := h.same fun k _ hk => hb.block k hk
theorem RowO.upd (h : RowO w base e s v n) {g : Nat} {o : Obj} (hu : Upd w w' g o) (hg : g < base) : RowO w' base e s v n := h.same fun k hk _ => hu.other k (by omega)
theorem RowO.lt (h : RowO w base e s v n) : ∀ k, v.ownBlock = some k → base ≤ k ∧ k < w.heap.size := by
  obtain ⟨cs, hc⟩ := h
  exact World.ownsRow.lt hc
theorem RowO.form (h : RowO w base e s v n) : ∃ A c, v = .slice A n c := by
  obtain ⟨cs, _, ⟨rfl, rfl⟩ | ⟨g, cap, cur, rfl, _⟩⟩ := h
  · exact ⟨none, 0, rfl⟩
  · exact ⟨_, _, rfl⟩
end
section
variable {P : Program} {ops : Array Oper} {rest : List Oper} {o : Oper} {a : Act} {w : World} {Q : Exit → Act → World → Prop}
/-- A slice literal of one struct. -/
theorem wpList_bs1 (hgd : Region.wanted o (yielded ops a.tmps) = true) (t e : TypeId) (x : Operand) (ho : o.op = .buildSlice t 1 #[(0, x)])
    (cs : Array Value) (hx : a.eval x = .agg cs) (z : Value) (size bytes : Nat) (hu : P.underlying t = some (.slice e)) (hi : (P.info? e).map (fun i => (i.zero, i.size, i.bytes)) = some (some z, size, bytes)) (hs : cs.size = size) (hpos : 0 < size) (hsmall : size ≤ 16777216)
    (h : ∀ w5 b5, w.alloc (.cells cs e) = w5 → w.heap.size = b5 → wpList P ops Q rest (a.put o.dst (.slice (some ⟨b5, 0, none⟩) 1 1)) w5) : wpList P ops Q (o :: rest) a w := by
  obtain ⟨ie, hie, hz, hsz, _⟩ := info_parts hi
  subst hs
  refine wpList_want hgd fun K hK => ?_
  refine wp_buildSlice t e 1 _ ho cs ie z hu hie hz (by rw [hsz]; omega) (by rw [hsz]; omega) ?_ (hK _ _ (h _ _ rfl rfl))
  have e1 : ((#[(0, x)] : Array (Nat × Operand)).map fun (i, x) => (i, a.eval x)).toList = [(0, .agg cs)] := by simp [hx]
  rw [e1, hsz, Nat.one_mul]
  have hsz2 : ((Array.range cs.size).map (z.cells[· % z.cells.size]!)).size = cs.size := by simp
  rw [fill_cons (off := 0) (size := cs.size) (by simp) rfl (by rw [hsz2]; omega), fill_nil]
  exact congrArg some (putRow_all _ _ (by rw [hsz2]; exact Array.length_toList))
/-- append of one struct to a row of one's own. -/
theorem wpList_ap1 (hgd : o.guard = none) (s x : Operand) (t : TypeId) (ho : o.op = .call { callee := .builtin .append, args := #[s, x], argTypes := #[t, t] })
    (base : Nat) (e : TypeId) (z : Value) (size bytes : Nat) (ht : P.underlying t = some (.slice e)) (hi : (P.info? e).map (fun i => (i.zero, i.size, i.bytes)) = some (some z, size, bytes)) (hzs : z.cells.size = size) (hsz : 0 < size) (hby : bytes ≤ 1024)
    (v : Value) (n : Nat) (hs : a.eval s = v) (hown : RowO w base e size v n) (b5 : Nat) (hx : a.eval x = .slice (some ⟨b5, 0, none⟩) 1 1) (cs : Array Value) (hc : w.heap[b5]? = some (.cells cs e (0, 0))) (hl : cs.size = size) (h1 : ∀ u ∈ cs.toList, u.oneCell' = true)
    (hn : n ≤ 4294967296) (hbase : base ≤ w.heap.size)
    (h : ∀ v' w', RowO w' base e size v' (n + 1) → (∀ B a0, Below B a0 w → B ≤ base → B ≤ w.heap.size → Below B a0 w') → (∀ k, k < w.heap.size → v.ownBlock ≠ some k → w'.heap[k]? = w.heap[k]?) → wpList P ops Q rest (a.put o.dst v') w') : wpList P ops Q (o :: rest) a w := by
  obtain ⟨i0, hi0, hz0, hz1, hz2⟩ := info_parts hi
  obtain ⟨cl, hcl⟩ := hown
  refine wpList_append_own w hgd s x t ho base e i0 z size bytes ht hi0 hz0 hz1 hz2 hzs hsz v n cl hs hcl ⟨b5, 0, none⟩ 1 1 cs.toList hx (by rw [Nat.one_mul, Array.length_toList]; exact hl) (fun j u hj => ?_) h1 (by simp only [maxLen]; omega) ?_ hbase ?_
  · rw [addr_add, Nat.zero_add]
    exact blk_cell hc (by rw [← Array.getElem?_toList]; exact hj)
  · exact Nat.le_trans (Nat.mul_le_mul_left _ hby) (by omega)
  · intro v' w' h2 h3 _
    refine h v' w' ⟨_, h2⟩ (fun B a0 hB hb1 hb2 => hB.grown h3 hb2 fun k hk => ?_) (fun k hk hne => h3.block k hk (Ne.symm hne))
    have := (World.ownsRow.lt hcl k hk).1
    omega
end
/-- What is read of one of the arrays in a row of structs. -/
theorem row_rdB {w : World} {b o : Nat} {l pre : List Value} {id : List Int} {post : List Value} (h : w.rangeAt b o l) (hl : l = pre ++ u8s id ++ post) (hb : b < w.heap.size) : RdB w (some ⟨b, o + pre.length, none⟩) id.length id :=
  ⟨rfl, fun _ => ⟨b, o + pre.length, rfl, hb, fun j hj => by
    have h1 := h (pre.length + j) (.int .u8 (id.getD j 0)) (by
      rw [hl, List.append_assoc, List.getElem?_append_right (by omega), show pre.length + j - pre.length = j by omega, List.getElem?_append_left (by rw [u8s_length]; exact hj)]
      simp [u8s, List.getD_eq_getElem?_getD, List.getElem?_eq_getElem hj])
    rw [← Nat.add_assoc] at h1
    exact h1⟩⟩
theorem at_bs {P : Program} {ops : Array Oper} {rest : List Oper} {t T : TypeId} {n : Nat} {x : Array (Nat × Operand)} {pos : String} {after : Array Edge} {gd : Option (Nat × Bool)} {a : Act} {w : World} {Q : Exit → Act → World → Prop} (d : Nat)
    (h : wpList P ops Q ({ dst := some d, op := .buildSlice t n x, type := T, pos := pos, after := after, guard := gd } :: rest) a w) : wpList P ops Q ({ dst := some d, op := .buildSlice t n x, type := T, pos := pos, after := after, guard := gd } :: rest) a w := h
theorem row_rd {w : World} {b : Nat} {l : List Int} {T : TypeId} (h : w.heap[b]? = some (.cells (u8s l).toArray T (0, 0))) {n : Nat} (hn : l.length = n) : RdB w (some ⟨b, 0, none⟩) n l :=
  ⟨hn, fun _ => ⟨b, 0, rfl, blk_lt h, fun j hj => by rw [Nat.zero_add]; exact blk_int (k := .u8) (l := l) h j (by omega)⟩⟩
theorem one_ss (s t : ByteArray) : ∀ u ∈ (#[.string s, .string t] : Array Value).toList, u.oneCell' = true := by
  intro u hu
  simp only [List.mem_cons, List.not_mem_nil, or_false] at hu
  rcases hu with rfl | rfl <;> rfl
theorem updC {w : World} {b j : Nat} {c : Array Value} {T : TypeId} (h : w.heap[b]? = some (.cells c T (0, 0))) (v : Value) : Upd w (w.setCell ⟨b, j, none⟩ v) b (.cells (c.setIfInBounds j v) T (0, 0)) :=
  ⟨rfl, rfl, rfl, by simp [World.setCell], heap_setCell_same w b j c T _ h, fun k hk => Below.heap_setCell _ _ _ _ hk⟩
end Go.Proofs.YtoompcgdhokdlaaDoor
