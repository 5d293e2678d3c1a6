/- Slices of texts of one's own; the walk over the document's parts. -/
import Derived.Test.YthnommoljikaiaaDoorNam8
import Derived.Laws.OwnMore
import Derived.IntWalk
set_option linter.unusedSimpArgs false
set_option linter.unusedVariables false
namespace Go.Proofs.YthnommoljikaiaaDoor
open Go.RowKit

/-- A slice of texts that lies in a block of one's own (from 'base' on). -/
def OwS (w : World) (base : Nat) (v : Value) (pcs : List ByteArray) : Prop := w.ownsRow base 9 1 v pcs.length (pcs.map Value.string)
theorem infoS : (Tryd.prog.info? 9).map (fun i => (i.zero, i.size, i.bytes)) = some (some (.string ⟨#[]⟩), 1, 16) := by kernel_rfl
theorem OwS.kept {w w' : World} {base : Nat} {v : Value} {pcs : List ByteArray} (h : OwS w base v pcs) (hb : Below w.heap.size w w') : OwS w' base v pcs := by
  obtain ⟨h1, h2 | ⟨g, cap, cur, e, hg, hh, h2⟩⟩ := h
  · exact ⟨h1, .inl h2⟩
  · exact ⟨h1, .inr ⟨g, cap, cur, e, hg, (hb.block g (blk_lt hh)).trans hh, h2⟩⟩
theorem OwS.nn {w : World} {base : Nat} {v : Value} {pcs : List ByteArray} (h : OwS w base v pcs) (hp : 0 < pcs.length) : ∃ g cap, v = .slice (some ⟨g, 0, none⟩) pcs.length cap ∧ base ≤ g ∧ g < w.heap.size ∧ pcs.length ≤ cap := by
  obtain ⟨h1, ⟨_, h2⟩ | ⟨g, cap, cur, e, hg, hh, h2, _⟩⟩ := h
  · omega
  · exact ⟨g, cap, e, hg, blk_lt hh, h2⟩
theorem OwS.cell {w : World} {base g cap : Nat} {pcs : List ByteArray} (h : OwS w base (.slice (some ⟨g, 0, none⟩) pcs.length cap) pcs) (j : Nat) (hj : j < pcs.length) : w.cell? ⟨g, j, none⟩ = some (.string pcs[j]) := by
  obtain ⟨h1, ⟨e, _⟩ | ⟨g', cap', cur, e, hg, hh, h2, h3, h4, h5⟩⟩ := h
  · cases e
  · cases e
    rw [cell_of_row w g j cur _ (0, 0) hh]
    have e2 : (cur.toList.take (pcs.length * 1))[j]? = (pcs.map Value.string)[j]? := by rw [h5]
    rw [List.getElem?_take_of_lt (by omega), Array.getElem?_toList] at e2
    rw [e2]
    simp [List.getElem?_eq_getElem hj]
theorem OwS.made (w : World) (base : Nat) (t : ByteArray) (hb : base ≤ w.heap.size) : OwS (w.alloc (.cells #[.string t] 9)) base (.slice (some ⟨w.heap.size, 0, none⟩) 1 1) [t] :=
  ⟨by simp, .inr ⟨w.heap.size, 1, #[.string t], rfl, hb, blk_new w _, Nat.le_refl _, by decide, rfl, rfl⟩⟩
/-- 'append(s, x...)' of one text. -/
theorem wpList_app1S {w : World} {ops : Array Oper} {rest : List Oper} {o : Oper} {a : Act} {Q : Exit → Act → World → Prop} (hgd : o.guard = none) (s x : Operand)
    (ho : o.op = .call { callee := .builtin .append, args := #[s, x], argTypes := #[22, 22] })
    (base : Nat) (v : Value) (pcs : List ByteArray) (hs : a.eval s = v) (hown : OwS w base v pcs) (b : Nat) (c : Nat) (t : ByteArray) (hx : a.eval x = .slice (some ⟨b, 0, none⟩) 1 c) (hc : w.cell? ⟨b, 0, none⟩ = some (.string t))
    (hlen : pcs.length + 1 ≤ 4398046511104) (hbase : base ≤ w.heap.size)
    (h : ∀ v' w', OwS w' base v' (pcs ++ [t]) → w.grownBy w' v.ownBlock → wpList Tryd.prog ops Q rest (a.put o.dst v') w') : wpList Tryd.prog ops Q (o :: rest) a w := by
  obtain ⟨i0, hi, hz0, hz1, hz2⟩ := info_parts infoS
  refine wpList_append_own w hgd s x _ ho base 9 i0 (.string ⟨#[]⟩) 1 16 Tryd.underlying22 hi hz0 hz1 hz2 rfl (by decide) v _ _ hs hown ⟨b, 0, none⟩ 1 c [.string t] hx rfl ?_ ?_ ?_ ?_ hbase ?_
  · intro j u hj
    match j, hj with
    | 0, hj => simp at hj; subst hj; exact hc
  · intro u hu
    rw [List.mem_singleton] at hu; subst hu; rfl
  · simp only [maxLen]; omega
  · omega
  · intro v' w' h1 h2 _
    refine h v' w' ?_ h2
    show World.ownsRow _ _ _ _ _ _ _
    rw [List.length_append, List.map_append]
    exact h1
theorem OwS.own {w : World} {base : Nat} {v : Value} {pcs : List ByteArray} (h : OwS w base v pcs) : ∀ k, v.ownBlock = .some k → base ≤ k ∧ k < w.heap.size := World.ownsRow.lt h
theorem OwS.below {w w' : World} {base B : Nat} {v : Value} {pcs : List ByteArray} (h : OwS w base v pcs) (hg : w.grownBy w' v.ownBlock) {a : World} (ha : Below B a w) (hB : B ≤ base) (hs : B ≤ w.heap.size) : Below B a w' :=
  ha.grown hg hs fun k hk => by have := (h.own k hk).1; omega
theorem app_data (x s : ByteArray) (k : Nat) (h : k < s.size) : (x ++ s.extract k (k + 1)).data.toList = x.data.toList ++ [s[k]] := by
  have e : (s.extract k (k + 1)).data.toList = [s[k]] := by
    rw [Lib.extract_data, show k + 1 - k = 1 by omega, List.drop_eq_getElem_cons (by simpa using h)]; rfl
  rw [ByteArray.data_append, Array.toList_append, e]
def datas (pcs : List ByteArray) : List (List UInt8) := pcs.map (·.data.toList)
theorem datas_step (pre : List ByteArray) (x : ByteArray) (c : UInt8) (h : c ≠ 47) : partStep (datas (pre ++ [x])) c = datas pre ++ [x.data.toList ++ [c]] := by
  unfold partStep datas
  rw [if_neg h]; simp
theorem datas_slash (pcs : List ByteArray) : partStep (datas pcs) 47 = datas (pcs ++ [⟨#[]⟩]) := by
  unfold partStep datas
  rw [if_pos rfl]; simp
def PartsRel (s : ByteArray) (w : World) (v i : Value) (wr : World) : Prop :=
  ∃ (k : Nat) (pre : List ByteArray) (x : ByteArray) (g cap : Nat), k ≤ s.size ∧ i = .int .i64 k ∧ v = .slice (some ⟨g, 0, none⟩) (pre.length + 1) cap ∧ OwS wr w.heap.size v (pre ++ [x]) ∧ datas (pre ++ [x]) = partsOf (s.data.toList.take k) ∧ Below w.heap.size w wr ∧ pre.length ≤ k ∧ x.size ≤ k
theorem parts_rel {s : ByteArray} {w wr : World} {v i : Value} {k : Nat} {pcs : List ByteArray} (hk : k ≤ s.size) (hi : i = .int .i64 k) (ho : OwS wr w.heap.size v pcs) (hd : datas pcs = partsOf (s.data.toList.take k)) (hb : Below w.heap.size w wr) : PartsRel s w v i wr := by
  have hne : pcs ≠ [] := fun e => partsOf_ne (s.data.toList.take k) (by rw [← hd, e]; rfl)
  obtain ⟨pre, x, rfl⟩ : ∃ pre x, pcs = pre ++ [x] := ⟨pcs.dropLast, pcs.getLast hne, (List.dropLast_concat_getLast hne).symm⟩
  obtain ⟨g, cap, e, _, _, _⟩ := ho.nn (by simp)
  have hsum := partsOf_sum (s.data.toList.take k)
  rw [← hd] at hsum
  have hl : (s.data.toList.take k).length ≤ k := List.length_take_le _ _
  have hx : x.data.toList ∈ datas (pre ++ [x]) := List.mem_map_of_mem (by simp)
  rw [hd] at hx
  have hx2 := part_le hx
  refine ⟨k, pre, x, g, cap, hk, hi, by rw [e]; simp, ho, hd, hb, ?_, ?_⟩
  · have := hsum.2; simp [datas] at this; omega
  · simp at hx2; omega
def PartsOut (l : List UInt8) (w : World) (e : Ending) (w' : World) : Prop := ∃ v pcs, e = .returned v ∧ OwS w' w.heap.size v pcs ∧ datas pcs = partsOf l ∧ Below w.heap.size w w'
set_option maxRecDepth 100000 in
set_option maxHeartbeats 1000000 in
theorem parts_any (s : ByteArray) (w : World) (hs : s.size < 4294967281) :
    Calls Tryd.prog 45 #[.string s] w (PartsOut s.data.toList w) := by
  go_enter Tryd.func45, Tryd.ntmps45
  go_wp2_with fail
  go_loopw [3, 4] (PartsRel s w) (fun _ i _ => s.size - (intOf i).toNat)
  case atStart => exact parts_rel (k := 0) (Nat.zero_le _) rfl (OwS.made w w.heap.size ⟨#[]⟩ (Nat.le_refl _)) rfl ((Below.refl _ _).alloc (Nat.le_refl _) _)
  case round =>
    rename_i wr
    obtain ⟨k, pre, x, g, cap, hk, rfl, rfl, ho, hd, hbel, hpl, hxl⟩ := hrel
    have HO := bx ho; have HD := bx hd; have HB := bx hbel
    clear ho hd hbel
    by_cases hlt : k < s.size
    · have hlt' : (k : Int) < s.size := by omega
      have HT := bx (take_data s k hlt)
      have ix : (Instr.index 9 (.string s) (.int .i64 k)).run Tryd.prog wr = .ok (.int .u8 s[k].toNat) wr := by go_simp
      have hk63 : (k : Int) + 1 ≤ 9223372036854775807 := by omega
      have h47 : ((s[k].toNat : Int) == 47) = (s[k] == 47) := u8_int _ 47 (by decide)
      cases hc : (s[k] == 47) with
      | true =>
        have HC : Bx (s[k] = 47) := ⟨by simpa using hc⟩
        rw [hc] at h47
        have HX := bx ix
        generalize (s[k].toNat : Int) = c at ix h47
        clear hc HX
        go_wp2_with (first
          | ((with_reducible refine at_call 18 ?_); go_must (refine wpList_app1S rfl (.tmp 16) (.tmp 17) rfl w.heap.size (.slice (some ⟨g, 0, none⟩) (pre.length + 1) cap) (pre ++ [x]) rfl (HO.out.kept ((Below.refl _ _).alloc (Nat.le_refl _) _)) wr.heap.size 1 ⟨#[]⟩ rfl (blk_cell (blk_new wr _) rfl) (by simp; omega) (by have := HB.out.size; simp; omega) ?_; intro v2 w2 ho2 hg2)))
        have HO2 := bx ho2
        have HB2 := bx ((HO.out.kept ((Below.refl _ _).alloc (Nat.le_refl _) _)).below hg2 (HB.out.alloc HB.out.size _) (Nat.le_refl _) (by have := HB.out.size; simp; omega))
        clear ho2 hg2 ix h47
        go_wp2_with fail
        go_roundw
        case rel => exact parts_rel (k := k + 1) (by omega) (by go_num) HO2.out (by rw [HT.out, partsOf_snoc, ← HD.out, HC.out, datas_slash]) HB2.out
        case measure => simp [intOf]; omega
      | false =>
        have HC : Bx (s[k] ≠ 47) := ⟨by simpa using hc⟩
        rw [hc] at h47
        have HW : Bx (wr.ownsRow w.heap.size 9 1 (.slice (some ⟨g, 0, none⟩) (pre.length + 1) cap) (pre.length + 1) ((pre ++ [x]).map Value.string)) := ⟨by have := HO.out; unfold OwS at this; rwa [List.length_append] at this⟩
        have hcell : wr.cell? ⟨g, pre.length, none⟩ = some (.string x) := by
          rw [World.ownsRow.cellAt HW.out pre.length (by omega)]; simp
        have hfro : wr.frozen? ⟨g, pre.length, none⟩ = false := World.ownsRow.frozenAt HW.out pre.length
        have HAD := bx (app_data x s k hlt)
        have HCE := bx hcell; have HFR := bx hfro
        generalize (s[k].toNat : Int) = c at ix h47
        clear hc
        go_upto_region 7 with fail
        have hsz : ¬ 9223372036854775807 < x.size + 1 := by omega
        have hsz2 : (s.extract k (k + 1)).size = 1 := by simp; omega
        have wr1 : IntKind.i64.wrap (pre.length : Int) = pre.length := IntWalk.i64_in _ (by omega)
        have wr2 : IntKind.i64.wrap ((k : Int) + 1) = (k : Int) + 1 := IntWalk.i64_in _ (by omega)
        have wr3 : ((k : Int) + 1).toNat = k + 1 := by omega
        have wr4 : (0 : Int) ≤ (k : Int) + 1 := by omega
        have wr5 : (k : Int) ≤ (k : Int) + 1 := by omega
        have wr6 : (k : Int) + 1 ≤ s.size := by omega
        have wr7 : (pre.length : Int) < (pre.length : Int) + 1 := by omega
        have hcell2 : wr.drew.cell? ⟨g, pre.length, none⟩ = some (.string x) := HCE.out
        have hfro2 : wr.drew.frozen? ⟨g, pre.length, none⟩ = false := HFR.out
        try simp only [Act.put]
        refine region_tailC (fun w' => w' = wr.drew) 17 (by kernel_rfl) (by kernel_rfl) rfl ?_
        simp only [List.take_succ_cons, List.take_zero, List.drop_succ_cons, List.drop_zero]
        repeat (first
          | (refine quiet_take (v := ?_) _ rfl (by kernel_rfl) ?_ ?_; rotate_left 1; (focus (first | (intro w' hw'; clear hw'; unfold Oper.quietAt; go_simp; done) | (intro w' hw'; clear hw'; unfold Oper.quietAt; go_simp; with_reducible rfl) | (intro w' hw'; subst hw'; unfold Oper.quietAt; go_simp; first | done | with_reducible rfl))); try simp only [List.setIfInBounds_toArray, List.set_cons_zero, List.set_cons_succ]))
        refine wpQuiet_nil ?_
        rintro w' rfl
        clear ix h47 wr1 wr2 wr3 wr4 wr5 wr6 wr7
        go_wp2_with fail
        have hst := World.ownsRow.stored HW.out pre.length (.string (x ++ s.extract k (k + 1)))
        go_roundw
        case rel =>
          refine parts_rel (k := k + 1) (pcs := pre ++ [x ++ s.extract k (k + 1)]) (by omega) (by go_num) ?_ ?_ ?_
          · unfold OwS
            rw [List.length_append]
            have := hst.1
            rw [List.map_append, List.set_append_right _ _ (by simp)] at this
            have h2 : (wr.setCell ⟨g, pre.length, none⟩ (.string (x ++ s.extract k (k + 1)))).ownsRow w.heap.size 9 1 (.slice (some ⟨g, 0, none⟩) (pre.length + 1) cap) (pre.length + [x ++ s.extract k (k + 1)].length) ((pre ++ [x ++ s.extract k (k + 1)]).map Value.string) := by simpa using this
            exact h2
          · rw [HT.out, partsOf_snoc, ← HD.out, datas_step _ _ _ HC.out, ← HAD.out]; simp [datas]
          · exact (HB.out.setCell (by have := (HO.out.own g rfl).1; exact this) _).drew
        case measure => simp [intOf]; omega
    · have hlt' : ¬ (k : Int) < s.size := by omega
      obtain rfl : k = s.size := by omega
      go_wp2_with fail
      go_ret
      exact ⟨_, _, rfl, HO.out, by rw [HD.out, List.take_of_length_le (by simp)], HB.out⟩
end Go.Proofs.YthnommoljikaiaaDoor
