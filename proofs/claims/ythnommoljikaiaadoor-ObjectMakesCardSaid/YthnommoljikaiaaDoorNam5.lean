/- The walks over the program's names: all, Kind, Path, Less. -/
import Derived.Test.YthnommoljikaiaaDoorNam4
set_option linter.unusedSimpArgs false
set_option linter.unusedVariables false
namespace Go.Proofs.YthnommoljikaiaaDoor
open Go.RowKit

theorem split_any (s : ByteArray) (w : World) (hM : MaxAt w) (hs : s.size < 4294967281) :
    Calls Tryd.prog 44 #[.string s, .string ⟨#[47]⟩] w fun e w' => e = .returned (.slice (some ⟨w.heap.size, 0, none⟩) (piecesB s).length (piecesB s).length) ∧ w.alloc (.cells ((piecesB s).map Value.string).toArray 9) = w' := by
  obtain ⟨m, hm⟩ := hM
  refine (Tryd.strings_Split s ⟨#[47]⟩ m w hs hm (by decide)).mono fun e w' ⟨h1, h2⟩ => ⟨?_, h2.symm⟩
  rw [pieces_len]
  exact h1
theorem pieces_get (s : ByteArray) (k : Nat) (h : k < (piecesB s).length) : ((piecesB s)[k]).data.toList = (partsOf s.data.toList)[k]'(by rw [← pieces_len2]; exact h) := by
  have := pieces_data s
  have h2 := congrArg (fun l => l[k]?) this
  simp only [List.getElem?_map, List.getElem?_eq_getElem h, Option.map_some] at h2
  rw [List.getElem?_eq_getElem (by rw [← pieces_len2]; exact h)] at h2
  exact Option.some.inj h2
theorem pieces_cell (s : ByteArray) (k : Nat) (h : k < (piecesB s).length) : (((piecesB s).map Value.string).toArray)[k]? = some (.string (piecesB s)[k]) := by
  simp [List.getElem?_eq_getElem h]
theorem pieces_get' (s : ByteArray) (k : Nat) (h : k < (piecesB s).length) : (partsOf s.data.toList)[k]? = some ((piecesB s)[k]).data.toList := by
  rw [pieces_get s k h, List.getElem?_eq_getElem]
set_option maxRecDepth 100000 in
set_option maxHeartbeats 400000 in
theorem goodF_any (s : ByteArray) (w : World) (hM : MaxAt w) (hs : s.size < 4294967281) :
    Calls Tryd.prog 43 #[.string s, .func (.func 46) #[] #[]] w fun e w' => e = .returned (.bool ((partsOf s.data.toList).all goodB)) ∧ Below w.heap.size w w' := by
  have HM := bx hM; have HF : Bx (∀ (t : ByteArray) (w : World), MaxAt w → t.size < 4294967281 → Calls Tryd.prog 46 #[.string t] w fun e w' => e = .returned (.bool (goodB t.data.toList)) ∧ Below w.heap.size w w') := ⟨fun t w hM hs => good_any t w hM hs⟩; have HS := bx (split_any s w hM hs)
  clear hM
  have HN := bx (pieces_len2 s); have HG := bx (pieces_get' s); have HC := bx (pieces_cell s)
  have HL : Bx ((piecesB s).length ≤ 4294967281) := ⟨by rw [pieces_len2]; have := (partsOf_sum s.data.toList).2; simp at this; omega⟩
  have HZ : Bx (∀ k (h : k < (piecesB s).length), (piecesB s)[k].size < 4294967281) := ⟨fun k h => by
    have h1 := pieces_get s k h
    have h2 := part_le (l := s.data.toList) (p := (partsOf s.data.toList)[k]'(by rw [← pieces_len2]; exact h)) (List.getElem_mem _)
    rw [← h1] at h2
    simp at h2
    omega⟩
  generalize partsOf s.data.toList = ps at *
  generalize piecesB s = pc at *
  go_enter Tryd.func43, Tryd.ntmps43
  go_wp2_with fail
  refine HS.out.mono ?_
  rintro e w' ⟨rfl, rfl⟩
  clear HS
  go_wp2_with fail
  go_loopw [6, 10] (fun q i wr => ∃ k : Nat, k ≤ pc.length ∧ i = .int .i64 k ∧ wr.heap[w.heap.size]? = some (.cells (pc.map Value.string).toArray 9 (0, 0)) ∧ Below w.heap.size w wr ∧ (ps.take k).all goodB = true) (fun _ i _ => pc.length - (intOf i).toNat)
  case atStart => exact ⟨0, Nat.zero_le _, rfl, blk_new w _, (Below.refl _ _).alloc (Nat.le_refl _) _, rfl⟩
  case round =>
    rename_i wr
    obtain ⟨k, hk, rfl, hh, hbel, hall⟩ := hrel
    have HH := bx hh; have HB := bx hbel; have HA := bx hall
    clear hh hbel hall
    by_cases hlt : k < pc.length
    · have hlt' : (k : Int) < pc.length := by omega
      have hcell : wr.cell? ⟨w.heap.size, k, none⟩ = some (.string pc[k]) := blk_cell HH.out (HC.out k hlt)
      have HT : Bx (ps.take (k + 1) = ps.take k ++ [pc[k].data.toList]) := ⟨by rw [List.take_add_one, HG.out k hlt]; rfl⟩
      have HIN : Bx (pc[k].data.toList ∈ ps) := ⟨List.mem_of_getElem? (HG.out k hlt)⟩
      have HFk := bx (HF.out pc[k] wr (HM.out.below HB.out) (HZ.out k hlt))
      cases hp : goodB pc[k].data.toList with
      | true =>
        rw [hp] at HFk
        have HP := bx hp
        clear hp
        have hkl : (k : Int) + 1 ≤ 4294967281 := by have := HL.out; omega
        go_wp2_with fail
        refine HFk.out.mono ?_
        rintro e w' ⟨rfl, hb⟩
        have HH2 := bx ((hb.block _ (blk_lt HH.out)).trans HH.out); have HB2 := bx (HB.out.trans (hb.mono HB.out.size))
        clear hb
        go_wp2_with fail
        go_roundw
        case rel => exact ⟨k + 1, by omega, by go_num, HH2.out, HB2.out, by rw [HT.out, List.all_append, HA.out]; simp [HP.out]⟩
        case measure => simp [intOf]; omega
      | false =>
        rw [hp] at HFk
        have HFF : Bx (ps.all goodB = false) := ⟨by
          rw [Bool.eq_false_iff]
          intro h
          have := List.all_eq_true.1 h _ HIN.out
          rw [hp] at this; cases this⟩
        clear hp
        go_wp2_with fail
        refine HFk.out.mono ?_
        rintro e w' ⟨rfl, hb⟩
        have HB2 := bx (HB.out.trans (hb.mono HB.out.size))
        clear hb
        go_wp2_with fail
        go_ret
        rw [HFF.out]
        exact ⟨rfl, HB2.out⟩
    · have hlt' : ¬ (k : Int) < pc.length := by omega
      obtain rfl : k = pc.length := by omega
      have HT : Bx (ps.all goodB = true) := ⟨by have := HA.out; rwa [List.take_of_length_le (by rw [HN.out]; exact Nat.le_refl _)] at this⟩
      go_wp2_with fail
      go_ret
      rw [HT.out]
      exact ⟨rfl, HB.out⟩
set_option maxRecDepth 100000 in
set_option maxHeartbeats 400000 in
theorem partF_any (s : ByteArray) (w : World) (hM : MaxAt w) (hs : s.size < 4294967281) :
    Calls Tryd.prog 43 #[.string s, .func (.func 15) #[] #[]] w fun e w' => e = .returned (.bool ((partsOf s.data.toList).all partB)) ∧ Below w.heap.size w w' := by
  have HM := bx hM; have HF : Bx (∀ (t : ByteArray) (w : World), MaxAt w → t.size < 4294967281 → Calls Tryd.prog 15 #[.string t] w fun e w' => e = .returned (.bool (partB t.data.toList)) ∧ Below w.heap.size w w') := ⟨fun t w hM hs => (part_any t w hM hs).mono fun e w' ⟨h1, h2⟩ => ⟨h1, h2 ▸ Below.refl _ _⟩⟩; have HS := bx (split_any s w hM hs)
  clear hM
  have HN := bx (pieces_len2 s); have HG := bx (pieces_get' s); have HC := bx (pieces_cell s)
  have HL : Bx ((piecesB s).length ≤ 4294967281) := ⟨by rw [pieces_len2]; have := (partsOf_sum s.data.toList).2; simp at this; omega⟩
  have HZ : Bx (∀ k (h : k < (piecesB s).length), (piecesB s)[k].size < 4294967281) := ⟨fun k h => by
    have h1 := pieces_get s k h
    have h2 := part_le (l := s.data.toList) (p := (partsOf s.data.toList)[k]'(by rw [← pieces_len2]; exact h)) (List.getElem_mem _)
    rw [← h1] at h2
    simp at h2
    omega⟩
  generalize partsOf s.data.toList = ps at *
  generalize piecesB s = pc at *
  go_enter Tryd.func43, Tryd.ntmps43
  go_wp2_with fail
  refine HS.out.mono ?_
  rintro e w' ⟨rfl, rfl⟩
  clear HS
  go_wp2_with fail
  go_loopw [6, 10] (fun q i wr => ∃ k : Nat, k ≤ pc.length ∧ i = .int .i64 k ∧ wr.heap[w.heap.size]? = some (.cells (pc.map Value.string).toArray 9 (0, 0)) ∧ Below w.heap.size w wr ∧ (ps.take k).all partB = true) (fun _ i _ => pc.length - (intOf i).toNat)
  case atStart => exact ⟨0, Nat.zero_le _, rfl, blk_new w _, (Below.refl _ _).alloc (Nat.le_refl _) _, rfl⟩
  case round =>
    rename_i wr
    obtain ⟨k, hk, rfl, hh, hbel, hall⟩ := hrel
    have HH := bx hh; have HB := bx hbel; have HA := bx hall
    clear hh hbel hall
    by_cases hlt : k < pc.length
    · have hlt' : (k : Int) < pc.length := by omega
      have hcell : wr.cell? ⟨w.heap.size, k, none⟩ = some (.string pc[k]) := blk_cell HH.out (HC.out k hlt)
      have HT : Bx (ps.take (k + 1) = ps.take k ++ [pc[k].data.toList]) := ⟨by rw [List.take_add_one, HG.out k hlt]; rfl⟩
      have HIN : Bx (pc[k].data.toList ∈ ps) := ⟨List.mem_of_getElem? (HG.out k hlt)⟩
      have HFk := bx (HF.out pc[k] wr (HM.out.below HB.out) (HZ.out k hlt))
      cases hp : partB pc[k].data.toList with
      | true =>
        rw [hp] at HFk
        have HP := bx hp
        clear hp
        have hkl : (k : Int) + 1 ≤ 4294967281 := by have := HL.out; omega
        go_wp2_with fail
        refine HFk.out.mono ?_
        rintro e w' ⟨rfl, hb⟩
        have HH2 := bx ((hb.block _ (blk_lt HH.out)).trans HH.out); have HB2 := bx (HB.out.trans (hb.mono HB.out.size))
        clear hb
        go_wp2_with fail
        go_roundw
        case rel => exact ⟨k + 1, by omega, by go_num, HH2.out, HB2.out, by rw [HT.out, List.all_append, HA.out]; simp [HP.out]⟩
        case measure => simp [intOf]; omega
      | false =>
        rw [hp] at HFk
        have HFF : Bx (ps.all partB = false) := ⟨by
          rw [Bool.eq_false_iff]
          intro h
          have := List.all_eq_true.1 h _ HIN.out
          rw [hp] at this; cases this⟩
        clear hp
        go_wp2_with fail
        refine HFk.out.mono ?_
        rintro e w' ⟨rfl, hb⟩
        have HB2 := bx (HB.out.trans (hb.mono HB.out.size))
        clear hb
        go_wp2_with fail
        go_ret
        rw [HFF.out]
        exact ⟨rfl, HB2.out⟩
    · have hlt' : ¬ (k : Int) < pc.length := by omega
      obtain rfl : k = pc.length := by omega
      have HT : Bx (ps.all partB = true) := ⟨by have := HA.out; rwa [List.take_of_length_le (by rw [HN.out]; exact Nat.le_refl _)] at this⟩
      go_wp2_with fail
      go_ret
      rw [HT.out]
      exact ⟨rfl, HB.out⟩
set_option maxRecDepth 100000 in
set_option maxHeartbeats 400000 in
theorem kind_any (s : ByteArray) (w : World) (hM : MaxAt w) (hs : s.size < 4294967281) :
    Calls Tryd.prog 13 #[.string s] w fun e w' => e = .returned (.int .i64 (kindB s.data.toList)) ∧ Below w.heap.size w w' := by
  have hlen : s.data.toList.length = s.size := by simp
  have HA := bx (goodF_any s w hM hs)
  have HH := bx (fun w => prefix_any s ⟨#[104, 101, 97, 100, 115, 47]⟩ w)
  have HT := bx (fun w => prefix_any s ⟨#[116, 97, 103, 115, 47]⟩ w)
  have HK : Bx (kindB s.data.toList = if 64 < s.data.toList.length then 0 else if (partsOf s.data.toList).all goodB = false then 0 else if Lib.hasPrefix s.data.toList (headsL ++ [47]) = true then 1 else if Lib.hasPrefix s.data.toList (tagsL ++ [47]) = true then 2 else 0) := ⟨rfl⟩
  rw [show (⟨#[104, 101, 97, 100, 115, 47]⟩ : ByteArray).data.toList = headsL ++ [47] from rfl] at HH
  rw [show (⟨#[116, 97, 103, 115, 47]⟩ : ByteArray).data.toList = tagsL ++ [47] from rfl] at HT
  generalize (partsOf s.data.toList).all goodB = ba at *
  generalize Lib.hasPrefix s.data.toList (headsL ++ [47]) = bh at *
  generalize Lib.hasPrefix s.data.toList (tagsL ++ [47]) = bt at *
  generalize kindB s.data.toList = K at *
  by_cases h64 : 64 < s.size
  · obtain rfl : K = 0 := by rw [HK.out, if_pos (by omega)]
    have h64' : (64 : Int) < s.size := by omega
    clear hlen
    go_enter Tryd.func13, Tryd.ntmps13
    go_wp2_with fail
    go_ret
    exact ⟨rfl, Below.refl _ _⟩
  · have h64' : ¬ (64 : Int) < s.size := by omega
    have HK2 : Bx (K = if ba = false then 0 else if bh = true then 1 else if bt = true then 2 else 0) := ⟨by rw [HK.out, if_neg (by omega)]⟩
    clear hlen HK h64
    cases ba with
    | false =>
      obtain rfl : K = 0 := by rw [HK2.out]; rfl
      go_enter Tryd.func13, Tryd.ntmps13
      go_wp2_with fail
      refine HA.out.mono ?_
      rintro e w' ⟨rfl, hb⟩
      have HB := bx hb
      clear hb
      go_wp2_with fail
      go_ret
      exact ⟨rfl, HB.out⟩
    | true =>
      cases bh with
      | true =>
        obtain rfl : K = 1 := by rw [HK2.out]; rfl
        go_enter Tryd.func13, Tryd.ntmps13
        go_wp2_with fail
        refine HA.out.mono ?_
        rintro e w' ⟨rfl, hb⟩
        have HB := bx hb
        clear hb
        go_wp2_with fail
        refine (HH.out _).mono ?_
        rintro e w2 ⟨rfl, rfl⟩
        go_wp2_with fail
        go_ret
        exact ⟨rfl, HB.out⟩
      | false =>
        have HK3 : Bx (K = if bt = true then 2 else 0) := ⟨HK2.out⟩
        clear HK2
        cases bt with
        | true =>
          obtain rfl : K = 2 := by rw [HK3.out]; rfl
          go_enter Tryd.func13, Tryd.ntmps13
          go_wp2_with fail
          refine HA.out.mono ?_
          rintro e w' ⟨rfl, hb⟩
          have HB := bx hb
          clear hb
          go_wp2_with fail
          refine (HH.out _).mono ?_
          rintro e w2 ⟨rfl, rfl⟩
          go_wp2_with fail
          refine (HT.out _).mono ?_
          rintro e w2 ⟨rfl, rfl⟩
          go_wp2_with fail
          go_ret
          exact ⟨rfl, HB.out⟩
        | false =>
          obtain rfl : K = 0 := by rw [HK3.out]; rfl
          go_enter Tryd.func13, Tryd.ntmps13
          go_wp2_with fail
          refine HA.out.mono ?_
          rintro e w' ⟨rfl, hb⟩
          have HB := bx hb
          clear hb
          go_wp2_with fail
          refine (HH.out _).mono ?_
          rintro e w2 ⟨rfl, rfl⟩
          go_wp2_with fail
          refine (HT.out _).mono ?_
          rintro e w2 ⟨rfl, rfl⟩
          go_wp2_with fail
          go_ret
          exact ⟨rfl, HB.out⟩
/-- A value that reads as these texts. -/
def StrsV (w : World) (v : Value) (ls : List (List UInt8)) : Prop :=
  ∃ A c, v = .slice A ls.length c ∧ ls.length ≤ c ∧ (0 < ls.length → ∃ b o, A = some ⟨b, o, none⟩ ∧ b < w.heap.size ∧ ∀ j (h : j < ls.length), ∃ t : ByteArray, w.cell? ⟨b, o + j, none⟩ = some (.string t) ∧ t.data.toList = ls[j])
theorem StrsV.below {w w' : World} {v : Value} {ls : List (List UInt8)} (h : StrsV w v ls) (hb : Below w.heap.size w w') : StrsV w' v ls := by
  obtain ⟨A, c, h1, h2, h3⟩ := h
  refine ⟨A, c, h1, h2, fun hp => ?_⟩
  obtain ⟨b, o, e, hlt, hc⟩ := h3 hp
  refine ⟨b, o, e, Nat.lt_of_lt_of_le hlt hb.size, fun j hj => ?_⟩
  obtain ⟨t, ht, h4⟩ := hc j hj
  exact ⟨t, (hb.cell (p := ⟨b, o + j, none⟩) hlt).trans ht, h4⟩
theorem strsV_nil (w : World) : StrsV w (.slice none 0 0) [] := ⟨none, 0, rfl, Nat.le_refl _, fun h => absurd h (by decide)⟩
def PathOut (l : List UInt8) (w : World) (e : Ending) (w' : World) : Prop := ∃ v, e = .returned (.tuple #[v, .bool (pathB l)]) ∧ StrsV w' v (if pathB l = true then partsOf l else []) ∧ Below w.heap.size w w'
set_option maxRecDepth 100000 in
set_option maxHeartbeats 400000 in
theorem path_any (s : ByteArray) (w : World) (hM : MaxAt w) (hs : s.size < 4294967281) :
    Calls Tryd.prog 11 #[.string s] w (PathOut s.data.toList w) := by
  have hlen : s.data.toList.length = s.size := by simp
  have HA := bx (partF_any s w hM hs); have HM := bx hM
  have HSP := bx (fun w hM => split_any s w hM hs)
  have HPB : Bx (pathB s.data.toList = (decide (s.data.toList.length ≤ 65536) && (partsOf s.data.toList).all partB)) := ⟨rfl⟩
  clear hM
  by_cases h64 : 65536 < s.size
  · have HF : Bx (pathB s.data.toList = false) := ⟨by rw [HPB.out, decide_eq_false (by omega)]; rfl⟩
    have h64' : (65536 : Int) < s.size := by omega
    clear hlen
    go_enter Tryd.func11, Tryd.ntmps11
    go_wp2_with fail
    go_ret2
    refine ⟨.slice none 0 0, by rw [HF.out]; rfl, ?_, Below.refl _ _⟩
    rw [HF.out]
    exact strsV_nil _
  · have h64' : ¬ (65536 : Int) < s.size := by omega
    cases ha : (partsOf s.data.toList).all partB with
    | false =>
      have HF : Bx (pathB s.data.toList = false) := ⟨by rw [HPB.out, ha, Bool.and_false]⟩
      rw [ha] at HA
      clear hlen ha h64
      go_enter Tryd.func11, Tryd.ntmps11
      go_wp2_with fail
      refine HA.out.mono ?_
      rintro e w' ⟨rfl, hb⟩
      have HB := bx hb
      clear hb
      go_wp2_with fail
      go_ret2
      refine ⟨.slice none 0 0, by rw [HF.out]; rfl, ?_, HB.out⟩
      rw [HF.out]
      exact strsV_nil _
    | true =>
      have HF : Bx (pathB s.data.toList = true) := ⟨by rw [HPB.out, ha, decide_eq_true (by omega)]; rfl⟩
      rw [ha] at HA
      clear hlen ha h64
      go_enter Tryd.func11, Tryd.ntmps11
      go_wp2_with fail
      refine HA.out.mono ?_
      rintro e w' ⟨rfl, hb⟩
      have HB := bx hb
      clear hb
      go_wp2_with fail
      refine (HSP.out _ (HM.out.below HB.out)).mono ?_
      rintro e w2 ⟨rfl, rfl⟩
      go_wp2_with fail
      go_ret2
      refine ⟨.slice (some ⟨w'.heap.size, 0, none⟩) (piecesB s).length (piecesB s).length, by rw [HF.out]; rfl, ?_, HB.out.alloc HB.out.size _⟩
      rw [HF.out, if_pos rfl]
      refine ⟨_, _, by rw [pieces_len2], Nat.le_of_eq (pieces_len2 s).symm, fun _ => ⟨w'.heap.size, 0, rfl, by simp, fun j hj => ?_⟩⟩
      have hj' : j < (piecesB s).length := by rw [pieces_len2]; exact hj
      exact ⟨(piecesB s)[j], by rw [Nat.zero_add]; exact blk_cell (blk_new w' _) (pieces_cell s j hj'), pieces_get s j hj'⟩
end Go.Proofs.YthnommoljikaiaaDoor
