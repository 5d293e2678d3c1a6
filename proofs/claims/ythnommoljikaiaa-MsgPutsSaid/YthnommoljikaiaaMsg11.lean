/- Messages: law20.Names, ref20.list: slices of texts. -/
import Derived.Test.YthnommoljikaiaaMsg10
import Derived.Test.YthnommoljikaiaaMsg5
import Derived.Test.YthnommoljikaiaaRef4
import Derived.Laws.OwnMore
set_option linter.unusedSimpArgs false
set_option linter.unusedVariables false
namespace Go.Proofs.Ythnommoljikaiaa
open Go.RowKit

/-- A slice of texts that lies in a block of one's own (from 'base' on). -/
def OwS (w : World) (base : Nat) (v : Value) (pcs : List ByteArray) : Prop := w.ownsRow base 9 1 v pcs.length (pcs.map Value.string)
theorem infoS : (Try.prog.info? 9).map (fun i => (i.zero, i.size, i.bytes)) = some (some (.string ⟨#[]⟩), 1, 16) := by kernel_rfl
theorem OwS.kept {w w' : World} {base : Nat} {v : Value} {pcs : List ByteArray} (h : OwS w base v pcs) (hb : Below w.heap.size w w') : OwS w' base v pcs := by
  obtain ⟨h1, h2 | ⟨g, cap, cur, e, hg, hh, h2⟩⟩ := h
  · exact ⟨h1, .inl h2⟩
  · exact ⟨h1, .inr ⟨g, cap, cur, e, hg, (hb.block g (blk_lt hh)).trans hh, h2⟩⟩
theorem OwS.alloc {w : World} {base : Nat} {v : Value} {pcs : List ByteArray} (h : OwS w base v pcs) (o : Obj) : OwS (w.alloc o) base v pcs := World.ownsRow.alloc h o
theorem OwS.nil (w : World) (base : Nat) : OwS w base (.slice none 0 0) [] := World.ownsRow_nil _ _ _ _
theorem OwS.own {w : World} {base : Nat} {v : Value} {pcs : List ByteArray} (h : OwS w base v pcs) : ∀ k, v.ownBlock = .some k → base ≤ k ∧ k < w.heap.size := World.ownsRow.lt h
theorem OwS.below {w w' : World} {base B : Nat} {v : Value} {pcs : List ByteArray} (h : OwS w base v pcs) (hg : w.grownBy w' v.ownBlock) {a : World} (ha : Below B a w) (hB : B ≤ base) (hs : B ≤ w.heap.size) : Below B a w' :=
  ha.grown hg hs fun k hk => by have := (h.own k hk).1; omega
/-- A slice of texts reads so. -/
def RdT (w : World) (A : Option Addr) (pcs : List ByteArray) : Prop := 0 < pcs.length → ∃ b, A = some ⟨b, 0, none⟩ ∧ b < w.heap.size ∧ ∀ (j : Nat) (hj : j < pcs.length), w.cell? ⟨b, j, none⟩ = some (.string pcs[j])
theorem RdT.below {w w' : World} {A : Option Addr} {pcs : List ByteArray} (h : RdT w A pcs) (hb : Below w.heap.size w w') : RdT w' A pcs := fun hn => by
  obtain ⟨b, e, hl, hc⟩ := h hn
  exact ⟨b, e, Nat.lt_of_lt_of_le hl hb.size, fun j hj => (hb.cell (p := ⟨b, j, none⟩) hl).trans (hc j hj)⟩
theorem OwS.rd {w : World} {base : Nat} {v : Value} {pcs : List ByteArray} (h : OwS w base v pcs) : ∃ A cap, v = .slice A pcs.length cap ∧ RdT w A pcs := by
  obtain ⟨h1, ⟨rfl, h0⟩ | ⟨g, cap, cur, rfl, hb, hg, hn, hm, hs, htk⟩⟩ := h
  · exact ⟨none, 0, by rw [h0], fun h => by omega⟩
  · refine ⟨some ⟨g, 0, none⟩, cap, rfl, fun hn0 => ⟨g, rfl, blk_lt hg, fun j hj => blk_cell hg ?_⟩⟩
    have e : (cur.toList.take (pcs.length * 1))[j]? = (pcs.map Value.string)[j]? := by rw [htk]
    rw [List.getElem?_take_of_lt (by omega), Array.getElem?_toList] at e
    rw [e]
    simp [List.getElem?_eq_getElem hj]
/-- 'append(s, x)' of one text. -/
theorem wpList_app1S {w : World} {ops : Array Oper} {rest : List Oper} {o : Oper} {a : Act} {Q : Exit → Act → World → Prop} (hgd : o.guard = none) (s x : Operand)
    (ho : o.op = .call { callee := .builtin .append, args := #[s, x], argTypes := #[37, 37] })
    (base : Nat) (v : Value) (pcs : List ByteArray) (hs : a.eval s = v) (hown : OwS w base v pcs) (b : Nat) (c : Nat) (t : ByteArray) (hx : a.eval x = .slice (some ⟨b, 0, none⟩) 1 c) (hc : w.cell? ⟨b, 0, none⟩ = some (.string t))
    (hlen : pcs.length + 1 ≤ 4398046511104) (hbase : base ≤ w.heap.size)
    (h : ∀ v' w', OwS w' base v' (pcs ++ [t]) → w.grownBy w' v.ownBlock → wpList Try.prog ops Q rest (a.put o.dst v') w') : wpList Try.prog ops Q (o :: rest) a w := by
  obtain ⟨i0, hi, hz0, hz1, hz2⟩ := info_parts infoS
  refine wpList_append_own w hgd s x _ ho base 9 i0 (.string ⟨#[]⟩) 1 16 Try.underlying37 hi hz0 hz1 hz2 rfl (by decide) v _ _ hs hown ⟨b, 0, none⟩ 1 c [.string t] hx rfl ?_ ?_ ?_ ?_ hbase ?_
  · intro j u hj
    match j, hj with
    | 0, hj => simp at hj; subst hj; exact hc
  · intro u hu
    rw [List.mem_singleton] at hu; subst hu; rfl
  · simp only [maxLen]; omega
  · omega
  · intro v' w' h1 h2 _
    refine h v' w' ?_ h2
    show World.ownsRow _ _ _ _ _ _ _
    rw [List.length_append, List.map_append]
    exact h1
/-- The names as texts. -/
def strsOf (flat : List Int) (n : Nat) : List ByteArray := (List.range n).map fun j => strOfNums ((flat.drop (16 * j)).take 16)
theorem strsOf_length (flat : List Int) (n : Nat) : (strsOf flat n).length = n := by simp [strsOf]
theorem strsOf_succ (flat : List Int) (n : Nat) : strsOf flat (n + 1) = strsOf flat n ++ [strOfNums ((flat.drop (16 * n)).take 16)] := by simp [strsOf, List.range_succ]
set_option maxRecDepth 100000 in
set_option maxHeartbeats 800000 in
theorem names20_any (A : Option Addr) (n cap : Nat) (flat : List Int) (w : World) (hrd : RdB w A (16 * n) flat) :
    Calls Try.prog 99 #[.slice A n cap] w fun e w' => ∃ v, e = .returned v ∧ OwS w' w.heap.size v (strsOf flat (min n 300)) ∧ Below w.heap.size w w' := by
  have HRD := bx hrd
  clear hrd
  go_enter Try.func99, Try.ntmps99
  go_wp2_with fail
  go_loopw [3, 4] (fun s i wr => ∃ j : Nat, j ≤ n ∧ j ≤ 300 ∧ i = .int .i64 j ∧ OwS wr w.heap.size s (strsOf flat j) ∧ Below w.heap.size w wr) (fun _ i _ => (300 - intOf i).toNat)
  case atStart => exact ⟨0, Nat.zero_le _, Nat.zero_le _, rfl, OwS.nil _ _, Below.refl _ _⟩
  case round =>
    rename_i sl wr
    obtain ⟨j, hjn, hj3, rfl, ho, hb⟩ := hrel
    have O := bx ho; have B := bx hb
    clear ho hb
    by_cases hlt : j < n ∧ j < 300
    · have h1 : (j : Int) < n := by omega
      have h2 : (j : Int) < 300 := by omega
      obtain ⟨b0, o0, rfl, hl0, hc0⟩ := HRD.out.2 (by omega)
      have hsub := rdB_sub (16 * j) 16 (HRD.out.below B.out) (by omega)
      have HS := bx (strsOf_succ flat j)
      have HL := bx (strsOf_length flat j)
      clear hl0 hc0
      generalize (flat.drop (16 * j)).take 16 = nm at *
      rw [Nat.mul_comm 16 j] at hsub
      have cv : ∀ w', Below wr.heap.size wr w' → (convert 22 9 (.slice (some ⟨b0, o0 + j * 16, none⟩) 16 16)).run Try.prog w' = .ok (.string (strOfNums nm)) w' := fun w' hb => str_of (hsub.below hb) 16
      have slz := arr_slice_all (P := Try.prog) (t := 113) Try.underlying113 Try.sizeOf5 b0 (o0 + j * 16)
      have cv0 := cv wr (Below.refl _ _)
      generalize strOfNums nm = t at *
      have hxc : (wr.alloc (.cells #[.string t] 9)).cell? ⟨wr.heap.size, 0, none⟩ = some (.string t) := blk_cell (blk_new wr _) rfl
      clear cv hsub
      go_wp2_with (first
        | ((with_reducible refine at_call 22 ?_); go_must (refine wpList_app1S rfl (.tmp 15) (.tmp 21) rfl w.heap.size _ (strsOf flat j) rfl (O.out.alloc _) wr.heap.size 1 t rfl hxc (by rw [HL.out]; omega) (by have := B.out.size; simp; omega) ?_; intro v' w' h1 h2; have K1 := bx h1; have K2 := bx h2; clear h1 h2)))
      go_roundw
      case rel => exact ⟨j + 1, by omega, by omega, by first | rfl | go_num, by rw [HS.out]; exact K1.out, (O.out.alloc _).below K2.out (B.out.alloc B.out.size _) (Nat.le_refl _) (by have := B.out.size; simp; omega)⟩
      case measure => simp only [intOf]; omega
    · have HM : Bx (min n 300 = j) := ⟨by omega⟩
      have ways : (¬ (j : Int) < n) ∨ ((j : Int) < n ∧ ¬ (j : Int) < 300) := by omega
      rcases ways with h1 | ⟨h1, h2⟩
      all_goals
        go_wp2_with fail
        go_ret
        exact ⟨_, rfl, by rw [HM.out]; exact O.out, B.out⟩
end Go.Proofs.Ythnommoljikaiaa
