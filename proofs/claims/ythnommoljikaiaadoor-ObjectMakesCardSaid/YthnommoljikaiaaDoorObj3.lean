/- Objects: bytes.Clone, OfMark. -/
import Derived.Test.YthnommoljikaiaaDoorObj2
set_option linter.unusedSimpArgs false
set_option linter.unusedVariables false
namespace Go.Proofs.YthnommoljikaiaaDoor
open Go.RowKit

set_option maxRecDepth 100000 in
set_option maxHeartbeats 400000 in
theorem bclone_any (ad : Addr) (n cap : Nat) (bs : List Int) (w : World) (hrd : RdB w (some ad) n bs) (hn : n ≤ 1099511627776) :
    Calls Tryd.prog 56 #[.slice (some ad) n cap] w fun e w' => ∃ r, e = .returned r ∧ OwB w' w.heap.size r bs ∧ Below w.heap.size w w' := by
  have HR := bx hrd
  have he := eql_nil w (some ad) n cap
  clear hrd
  go_enter Tryd.func56, Tryd.ntmps56
  go_wp2_with (first
    | ((with_reducible refine at_call 7 ?_); go_must (refine wpList_app rfl (.tmp 5) (.tmp 6) rfl w.heap.size _ [] rfl (OwB.made w w.heap.size [] (Nat.le_refl _) (by decide)) (some ad) n cap bs rfl (HR.out.below ((Below.refl _ _).alloc (Nat.le_refl _) _)) (fun h => by cases h) (by simp; omega) (by simp) ?_; intro v' w' h1 h2; rw [List.nil_append] at h1; have O1 := bx h1; have D1 := bx ((OwB.made w w.heap.size [] (Nat.le_refl _) (by decide)).below h2 ((Below.refl w.heap.size w).alloc (Nat.le_refl _) _) (Nat.le_refl _) (by simp)); clear h1 h2)))
  go_ret
  exact ⟨_, rfl, O1.out, D1.out⟩
/-- A note. -/
def markCells (id : List Int) (name text : ByteArray) : List Value := u8s id ++ [.string name, .string text]
def markD (id : List Int) (name text : ByteArray) : List Int := id ++ textB name ++ textB text
def markO (id : List Int) (name text : ByteArray) : Int × List Int × Int := if kindB name.data.toList ≠ 2 then (0, [], 2) else fitO 4 (markD id name text)
theorem mark_get {id : List Int} (h : id.length = 32) (name text : ByteArray) : (markCells id name text).toArray[32]? = some (.string name) ∧ (markCells id name text).toArray[33]? = some (.string text) := by
  have e : (u8s id).length = 32 := by rw [u8s_length, h]
  constructor
  · rw [List.getElem?_toArray, markCells, List.getElem?_append_right (by omega), e]; rfl
  · rw [List.getElem?_toArray, markCells, List.getElem?_append_right (by omega), e]; rfl
theorem cells_rd {w : World} {b : Nat} {l pre : List Value} {id : List Int} {post : List Value} {T : TypeId} (hk : w.heap[b]? = some (.cells l.toArray T (0, 0))) (hl : l = pre ++ u8s id ++ post) : RdB w (some ⟨b, pre.length, none⟩) id.length id := by
  have h9 := row_rdB (w := w) (b := b) (o := 0) (l := l) (pre := pre) (id := id) (post := post) (fun q v hv => by rw [Nat.zero_add]; exact blk_cell hk (by simpa using hv)) hl (blk_lt hk)
  rw [Nat.zero_add] at h9
  exact h9
set_option maxRecDepth 100000 in
set_option maxHeartbeats 2000000 in
theorem ofmark_any (id : List Int) (name text : ByteArray) (w : World) (hM : MaxAt w) (hid : id.length = 32) (hnm : name.size < 4294967281) :
    Calls Tryd.prog 26 #[.agg (markCells id name text).toArray] w (ObjO w (markO id name text)) := by
  obtain ⟨w0, hw0⟩ : ∃ w0, w0 = (w.alloc (.cells (markCells id name text).toArray 38)).alloc (.cells (objC 0 (.slice none 0 0)) 43) := ⟨_, rfl⟩
  have K0 : Bx (w0.heap[w.heap.size]? = some (.cells (markCells id name text).toArray 38 (0, 0))) := ⟨by rw [hw0]; exact heap_alloc2_old w _ _⟩
  have K1 : Bx (w0.heap[w.heap.size + 1]? = some (.cells (objC 0 (.slice none 0 0)) 43 (0, 0))) := ⟨by rw [hw0]; exact heap_alloc2_new w _ _⟩
  have B0 : Bx (Below w.heap.size w w0) := ⟨by rw [hw0]; exact ((Below.refl _ _).alloc (Nat.le_refl _) _).alloc (by simp) _⟩
  have SZ : Bx (w0.heap.size = w.heap.size + 2) := ⟨by rw [hw0]; simp⟩
  have LIT : Bx ((w.alloc (.cells (markCells id name text).toArray 38)).alloc (.cells #[.int .i64 0, .slice none 0 0] 43) = w0) := ⟨hw0.symm⟩
  have HC : Bx (∀ w', Below (w.heap.size + 1) w0 w' → w'.cell? ⟨w.heap.size, 32, none⟩ = some (.string name) ∧ w'.cell? ⟨w.heap.size, 33, none⟩ = some (.string text)) := ⟨fun w' hb => by
    have hk := (hb.block _ (by omega)).trans K0.out
    exact ⟨blk_cell hk (mark_get hid name text).1, blk_cell hk (mark_get hid name text).2⟩⟩
  have HRD : Bx (∀ w', Below (w.heap.size + 1) w0 w' → RdB w' (some ⟨w.heap.size, 0, none⟩) 32 id) := ⟨fun w' hb => by
    have hk := (hb.block _ (by omega)).trans K0.out
    have h9 := cells_rd hk (pre := []) (id := id) (post := [.string name, .string text]) rfl
    rw [hid] at h9
    exact h9⟩
  have sl := arr_slice_all (P := Tryd.prog) (t := 32) Tryd.underlying32 Tryd.sizeOf5 w.heap.size 0
  have HKD := bx (kind_any name w0 (hM.below B0.out) hnm)
  have z0 := (HC.out w0 (Below.refl _ _)).1
  have HOUT : Bx (∀ (r : Int × List Int × Int) A c w', markO id name text = r → RdB w' A r.2.1.length r.2.1 → (A = none → c = 0) → r.2.1.length ≤ c → Below w.heap.size w w' → ObjO w (markO id name text) (.returned (.tuple #[.agg (objC r.1 (.slice A r.2.1.length c)), .int .i64 r.2.2])) w') := ⟨fun r A c w' hr h1 h2 h3 h4 => by subst hr; exact ⟨A, c, rfl, h1, h2, h3, h4⟩⟩
  have HID := bx hid
  clear hw0 hM hnm hid
  generalize ObjO w (markO id name text) = OUT at *
  obtain ⟨kd, hkd⟩ : ∃ kd, kindB name.data.toList = kd := ⟨_, rfl⟩
  rw [hkd] at HKD
  by_cases h2 : kd = 2
  · subst h2
    obtain ⟨m, hm⟩ : ∃ m, (markD id name text).length = m := ⟨_, rfl⟩
    have HML := bx hm
    have HMF : Bx (m ≤ 32810) := ⟨by rw [← hm, markD, List.length_append, List.length_append, HID.out]; have := textB_length name; have := textB_length text; omega⟩
    have HL1 : Bx ((id ++ textB name).length ≤ 1048576) := ⟨by rw [List.length_append, HID.out]; have := textB_length name; omega⟩
    obtain ⟨n1, hn1⟩ : ∃ n1, (id ++ textB name).length = n1 := ⟨_, rfl⟩
    have HN1 := bx hn1
    have HD : Bx (markD id name text = id ++ textB name ++ textB text) := ⟨rfl⟩
    rw [hn1] at HL1
    have HT1 : Bx (m ≤ 16384 → markO id name text = (4, markD id name text, 0)) := ⟨fun hf => by rw [markO, if_neg (by rw [hkd]; decide), fitO, if_neg (by rw [HML.out]; omega)]⟩
    have HT2 : Bx (¬ m ≤ 16384 → markO id name text = (0, [], 3)) := ⟨fun hf => by rw [markO, if_neg (by rw [hkd]; decide), fitO, if_pos (by rw [HML.out]; omega)]⟩
    clear hm hn1 hkd
    by_cases hf : m ≤ 16384
    · have HT := bx (HT1.out hf)
      have HF := bx hf
      clear HT1 HT2 hf
      go_enter Tryd.func26, Tryd.ntmps26
      go_upto_region 1 with fail
      rw [LIT.out]
      clear LIT
      go_wp2_with fail
      refine HKD.out.mono ?_
      rintro e w1 ⟨rfl, hb1⟩
      have hS1 : Below (w.heap.size + 1) w0 w1 := hb1.mono (by rw [SZ.out]; omega)
      have KR1 := bx ((hb1.block _ (blk_lt K1.out)).trans K1.out)
      have LS1 := bx (show w.heap.size + 2 ≤ w1.heap.size from SZ.out ▸ hb1.size)
      clear hb1 HKD z0
      go_wp2_with fail
      have hS0 : Below (w.heap.size + 1) w0 w1.drew ∧ w.heap.size + 2 ≤ w1.drew.heap.size ∧ ∃ old : Array Value, old.size = 2 ∧ w1.drew.heap[w.heap.size + 1]? = some (.cells old 43 (0, 0)) := ⟨hS1.drew, LS1.out, _, rfl, KR1.out⟩
      refine wp_region_held_drew (S := (fun w' => Below (w.heap.size + 1) w0 w' ∧ w.heap.size + 2 ≤ w'.heap.size ∧ ∃ old : Array Value, old.size = 2 ∧ w'.heap[w.heap.size + 1]? = some (.cells old 43 (0, 0)))) (by kernel_rfl) hS0 (fun hS => ?_)
      refine takeH (i := 0) (d := 9) (v := ?_) rfl rfl (by kernel_rfl) (by kernel_rfl) (by kernel_rfl) (fun _ _ _ h => h) (Or.inl ⟨by kernel_rfl, ?_⟩) hS ?_; rotate_left 1; (focus ((intro w' hS'; clear hS'; go_simp; try with_reducible rfl); done))
      try simp only [List.setIfInBounds_toArray, List.set_cons_zero, List.set_cons_succ]
      refine takeH (i := 1) (d := 10) (v := ?_) rfl rfl (by kernel_rfl) (by kernel_rfl) (by kernel_rfl) (fun _ _ _ h => h) (Or.inl ⟨by kernel_rfl, ?_⟩) hS ?_; rotate_left 1; (focus ((intro w' hS'; clear hS'; go_simp; try with_reducible rfl); done))
      try simp only [List.setIfInBounds_toArray, List.set_cons_zero, List.set_cons_succ]
      refine takeH (i := 3) (d := 12) (v := ?_) rfl rfl (by kernel_rfl) (by kernel_rfl) (by kernel_rfl) (fun _ _ _ h => h) (Or.inl ⟨by kernel_rfl, ?_⟩) hS ?_; rotate_left 1; (focus ((intro w' hS'; clear hS'; go_simp; try with_reducible rfl); done))
      try simp only [List.setIfInBounds_toArray, List.set_cons_zero, List.set_cons_succ]
      refine takeH (i := 4) (d := 13) (v := ?_) rfl rfl (by kernel_rfl) (by kernel_rfl) (by kernel_rfl) (fun _ _ _ h => h) (Or.inl ⟨by kernel_rfl, ?_⟩) hS ?_; rotate_left 1; (focus ((intro w' hS'; obtain ⟨z0, z1⟩ := HC.out w' hS'.1; clear hS'; go_simp; try with_reducible rfl); done))
      try simp only [List.setIfInBounds_toArray, List.set_cons_zero, List.set_cons_succ]
      refine takeH (i := 6) (d := 15) (v := ?_) rfl rfl (by kernel_rfl) (by kernel_rfl) (by kernel_rfl) (fun _ _ _ h => h) (Or.inl ⟨by kernel_rfl, ?_⟩) hS ?_; rotate_left 1; (focus ((intro w' hS'; clear hS'; go_simp; try with_reducible rfl); done))
      try simp only [List.setIfInBounds_toArray, List.set_cons_zero, List.set_cons_succ]
      refine takeH (i := 7) (d := 16) (v := ?_) rfl rfl (by kernel_rfl) (by kernel_rfl) (by kernel_rfl) (fun _ _ _ h => h) (Or.inl ⟨by kernel_rfl, ?_⟩) hS ?_; rotate_left 1; (focus ((intro w' hS'; obtain ⟨z0, z1⟩ := HC.out w' hS'.1; clear hS'; go_simp; try with_reducible rfl); done))
      try simp only [List.setIfInBounds_toArray, List.set_cons_zero, List.set_cons_succ]
      refine wpAnyH_ready (rs := [2]) (by kernel_rfl) (by simp) ?_
      refine AllReadyH.cons rfl (fun K hK => ?_) AllReadyH.nil
      go_simp
      refine (bclone_any ⟨w.heap.size, 0, none⟩ 32 32 id _ (HRD.out _ hS.1) (by decide)).mono ?_
      rintro x w2 ⟨v2, rfl, ho, hb⟩
      obtain ⟨A2, c2, rfl, hr2, _, hn2⟩ := ho.rdn HID.out
      have R2 := bx hr2; have N2 := bx hn2
      have S2 := bx (show Below (w.heap.size + 1) w0 w2 ∧ w.heap.size + 2 ≤ w2.heap.size ∧ ∃ old : Array Value, old.size = 2 ∧ w2.heap[w.heap.size + 1]? = some (.cells old 43 (0, 0)) from ⟨hS.1.trans (hb.mono (by have := hS.2.1; omega)), Nat.le_trans hS.2.1 hb.size, by obtain ⟨old, h7, hk⟩ := hS.2.2; exact ⟨old, h7, (hb.block _ (blk_lt hk)).trans hk⟩⟩)
      clear ho hr2 hn2 hb
      refine hK.out _ _ ?_ (fun hS2 => ?_)
      · exact S2.out
      clear hK K hS; have hS := hS2; clear hS2
      try simp only [Act.put, List.setIfInBounds_toArray, List.set_cons_zero, List.set_cons_succ]
      refine wpAnyH_ready (rs := [5]) (by kernel_rfl) (by simp) ?_
      refine AllReadyH.cons rfl (fun K hK => ?_) AllReadyH.nil
      go_simp
      refine (text_any A2 32 c2 id name _ R2.out N2.out (by decide)).mono ?_
      rintro x w3 ⟨v3, rfl, ho, hb⟩
      obtain ⟨A3, c3, rfl, hr3, _, hn3⟩ := ho.rdn HN1.out
      have R3 := bx hr3; have N3 := bx hn3
      have S3 := bx (show Below (w.heap.size + 1) w0 w3 ∧ w.heap.size + 2 ≤ w3.heap.size ∧ ∃ old : Array Value, old.size = 2 ∧ w3.heap[w.heap.size + 1]? = some (.cells old 43 (0, 0)) from ⟨hS.1.trans (hb.mono (by have := hS.2.1; omega)), Nat.le_trans hS.2.1 hb.size, by obtain ⟨old, h7, hk⟩ := hS.2.2; exact ⟨old, h7, (hb.block _ (blk_lt hk)).trans hk⟩⟩)
      clear ho hr3 hn3 hb
      refine hK.out _ _ ?_ (fun hS2 => ?_)
      · exact S3.out
      clear hK K hS; have hS := hS2; clear hS2
      try simp only [Act.put, List.setIfInBounds_toArray, List.set_cons_zero, List.set_cons_succ]
      refine wpAnyH_ready (rs := [8]) (by kernel_rfl) (by simp) ?_
      refine AllReadyH.cons rfl (fun K hK => ?_) AllReadyH.nil
      go_simp
      refine (text_any A3 n1 c3 _ text _ R3.out N3.out HL1.out).mono ?_
      rintro x w4 ⟨v4, rfl, ho, hb⟩
      have O4 := bx (ho.base_le hS.2.1)
      obtain ⟨A4, c4, rfl, _, hc4, hn4⟩ := ho.rdn (show _ = m by rw [← HD.out]; exact HML.out)
      have C4 := bx hc4; have N4 := bx hn4
      have S4 := bx (show Below (w.heap.size + 1) w0 w4 ∧ w.heap.size + 2 ≤ w4.heap.size ∧ ∃ old : Array Value, old.size = 2 ∧ w4.heap[w.heap.size + 1]? = some (.cells old 43 (0, 0)) from ⟨hS.1.trans (hb.mono (by have := hS.2.1; omega)), Nat.le_trans hS.2.1 hb.size, by obtain ⟨old, h7, hk⟩ := hS.2.2; exact ⟨old, h7, (hb.block _ (blk_lt hk)).trans hk⟩⟩)
      clear ho hc4 hn4 hb
      refine hK.out _ _ ?_ (fun hS2 => ?_)
      · exact S4.out
      clear hK K hS; have hS := hS2; clear hS2
      try simp only [Act.put, List.setIfInBounds_toArray, List.set_cons_zero, List.set_cons_succ]
      refine wpAnyH_ready (rs := [9]) (by kernel_rfl) (by simp) ?_
      refine AllReadyH.cons rfl (fun K hK => ?_) AllReadyH.nil
      go_simp
      refine (fit_ok 4 A4 m c4 _ HF.out).mono ?_
      rintro x w5 ⟨rfl, hb⟩
      have O5 := bx (O4.out.kept hb)
      have S5 := bx (show Below (w.heap.size + 1) w0 w5 ∧ w.heap.size + 2 ≤ w5.heap.size ∧ ∃ old : Array Value, old.size = 2 ∧ w5.heap[w.heap.size + 1]? = some (.cells old 43 (0, 0)) from ⟨hS.1.trans (hb.mono (by have := hS.2.1; omega)), Nat.le_trans hS.2.1 hb.size, by obtain ⟨old, h7, hk⟩ := hS.2.2; exact ⟨old, h7, (hb.block _ (blk_lt hk)).trans hk⟩⟩)
      clear hb
      refine hK.out _ _ ?_ (fun hS2 => ?_)
      · exact S5.out
      clear hK K hS; have hS := hS2; clear hS2
      try simp only [Act.put, List.setIfInBounds_toArray, List.set_cons_zero, List.set_cons_succ]
      refine takeH (i := 10) (d := 19) (v := ?_) rfl rfl (by kernel_rfl) (by kernel_rfl) (by kernel_rfl) (fun _ _ _ h => h) (Or.inl ⟨by kernel_rfl, ?_⟩) hS ?_; rotate_left 1; (focus ((intro w' hS'; clear hS'; go_simp; try with_reducible rfl); done))
      try simp only [List.setIfInBounds_toArray, List.set_cons_zero, List.set_cons_succ]
      refine takeH (i := 11) (d := 20) (v := ?_) rfl rfl (by kernel_rfl) (by kernel_rfl) (by kernel_rfl) (fun _ _ _ h => h) (Or.inl ⟨by kernel_rfl, ?_⟩) hS ?_; rotate_left 1; (focus ((intro w' hS'; clear hS'; go_simp; try with_reducible rfl); done))
      try simp only [List.setIfInBounds_toArray, List.set_cons_zero, List.set_cons_succ]
      refine wpAnyH_ready (rs := [12]) (by kernel_rfl) (by simp) ?_
      refine readyH_list rfl (fun K hK => ?_) AllReadyH.nil
      obtain ⟨old, h7, hk⟩ := S5.out.2.2
      refine store_all (cs := objC 4 (.slice A4 m c4)) 43 (.tmp 2) (.tmp 19) rfl rfl rfl rfl hk (obj_is _ _ _ _) (by rw [h7]; rfl) (obj_one _ _ _ _) ?_
      intro w9 hu9
      have R9 := bx hu9.same; have O9 := bx (O5.out.upd hu9 (Nat.lt_succ_self _)); have BF := bx (S5.out.1.trans (hu9.below (Nat.le_refl _))); have L9 := bx (show w.heap.size + 2 ≤ w9.heap.size by rw [hu9.size]; exact S5.out.2.1)
      clear hu9 hk h7
      show wpList _ _ K [] (Act.put _ none undef) w9
      refine hK.out _ _ ?_ (fun hS2 => ?_)
      · exact ⟨BF.out, L9.out, _, rfl, R9.out⟩
      clear hK K hS; have hS := hS2; clear hS2
      try simp only [Act.put, List.setIfInBounds_toArray, List.set_cons_zero, List.set_cons_succ]
      refine takeH (i := 13) (d := 3) (v := ?_) rfl rfl (by kernel_rfl) (by kernel_rfl) (by kernel_rfl) (fun _ _ _ h => h) (Or.inl ⟨by kernel_rfl, ?_⟩) hS ?_; rotate_left 1; (focus ((intro w' hS'; clear hS'; go_simp; try with_reducible rfl); done))
      try simp only [List.setIfInBounds_toArray, List.set_cons_zero, List.set_cons_succ]
      refine wpAnyH_done (by kernel_rfl) ?_ _
      go_wp2_with fail
      refine bodyPost_ret (results_ct (cs := objC 4 (.slice A4 m c4)) rfl _ _ (w.heap.size + 1) 43 _ _ rfl rfl R9.out Tryd.underlying43 rfl (obj_is _ _ _ _)) rfl ?_
      have hm := HML.out
      subst hm
      obtain ⟨A9, c9, e9, hr9, _⟩ := O9.out.rdn (show _ = (markD id name text).length by rw [HD.out])
      simp only [Value.slice.injEq, true_and] at e9
      obtain ⟨rfl, rfl⟩ := e9
      exact HOUT.out (4, markD id name text, 0) A4 c4 _ HT.out hr9 N4.out C4.out (B0.out.trans (BF.out.mono (by omega)))
    · have HT := bx (HT2.out hf)
      have HF := bx (show 16384 < m by omega)
      clear HT1 HT2 hf
      go_enter Tryd.func26, Tryd.ntmps26
      go_upto_region 1 with fail
      rw [LIT.out]
      clear LIT
      go_wp2_with fail
      refine HKD.out.mono ?_
      rintro e w1 ⟨rfl, hb1⟩
      have hS1 : Below (w.heap.size + 1) w0 w1 := hb1.mono (by rw [SZ.out]; omega)
      have KR1 := bx ((hb1.block _ (blk_lt K1.out)).trans K1.out)
      have LS1 := bx (show w.heap.size + 2 ≤ w1.heap.size from SZ.out ▸ hb1.size)
      clear hb1 HKD z0
      go_wp2_with fail
      have hS0 : Below (w.heap.size + 1) w0 w1.drew ∧ w.heap.size + 2 ≤ w1.drew.heap.size ∧ ∃ old : Array Value, old.size = 2 ∧ w1.drew.heap[w.heap.size + 1]? = some (.cells old 43 (0, 0)) := ⟨hS1.drew, LS1.out, _, rfl, KR1.out⟩
      refine wp_region_held_drew (S := (fun w' => Below (w.heap.size + 1) w0 w' ∧ w.heap.size + 2 ≤ w'.heap.size ∧ ∃ old : Array Value, old.size = 2 ∧ w'.heap[w.heap.size + 1]? = some (.cells old 43 (0, 0)))) (by kernel_rfl) hS0 (fun hS => ?_)
      refine takeH (i := 0) (d := 9) (v := ?_) rfl rfl (by kernel_rfl) (by kernel_rfl) (by kernel_rfl) (fun _ _ _ h => h) (Or.inl ⟨by kernel_rfl, ?_⟩) hS ?_; rotate_left 1; (focus ((intro w' hS'; clear hS'; go_simp; try with_reducible rfl); done))
      try simp only [List.setIfInBounds_toArray, List.set_cons_zero, List.set_cons_succ]
      refine takeH (i := 1) (d := 10) (v := ?_) rfl rfl (by kernel_rfl) (by kernel_rfl) (by kernel_rfl) (fun _ _ _ h => h) (Or.inl ⟨by kernel_rfl, ?_⟩) hS ?_; rotate_left 1; (focus ((intro w' hS'; clear hS'; go_simp; try with_reducible rfl); done))
      try simp only [List.setIfInBounds_toArray, List.set_cons_zero, List.set_cons_succ]
      refine takeH (i := 3) (d := 12) (v := ?_) rfl rfl (by kernel_rfl) (by kernel_rfl) (by kernel_rfl) (fun _ _ _ h => h) (Or.inl ⟨by kernel_rfl, ?_⟩) hS ?_; rotate_left 1; (focus ((intro w' hS'; clear hS'; go_simp; try with_reducible rfl); done))
      try simp only [List.setIfInBounds_toArray, List.set_cons_zero, List.set_cons_succ]
      refine takeH (i := 4) (d := 13) (v := ?_) rfl rfl (by kernel_rfl) (by kernel_rfl) (by kernel_rfl) (fun _ _ _ h => h) (Or.inl ⟨by kernel_rfl, ?_⟩) hS ?_; rotate_left 1; (focus ((intro w' hS'; obtain ⟨z0, z1⟩ := HC.out w' hS'.1; clear hS'; go_simp; try with_reducible rfl); done))
      try simp only [List.setIfInBounds_toArray, List.set_cons_zero, List.set_cons_succ]
      refine takeH (i := 6) (d := 15) (v := ?_) rfl rfl (by kernel_rfl) (by kernel_rfl) (by kernel_rfl) (fun _ _ _ h => h) (Or.inl ⟨by kernel_rfl, ?_⟩) hS ?_; rotate_left 1; (focus ((intro w' hS'; clear hS'; go_simp; try with_reducible rfl); done))
      try simp only [List.setIfInBounds_toArray, List.set_cons_zero, List.set_cons_succ]
      refine takeH (i := 7) (d := 16) (v := ?_) rfl rfl (by kernel_rfl) (by kernel_rfl) (by kernel_rfl) (fun _ _ _ h => h) (Or.inl ⟨by kernel_rfl, ?_⟩) hS ?_; rotate_left 1; (focus ((intro w' hS'; obtain ⟨z0, z1⟩ := HC.out w' hS'.1; clear hS'; go_simp; try with_reducible rfl); done))
      try simp only [List.setIfInBounds_toArray, List.set_cons_zero, List.set_cons_succ]
      refine wpAnyH_ready (rs := [2]) (by kernel_rfl) (by simp) ?_
      refine AllReadyH.cons rfl (fun K hK => ?_) AllReadyH.nil
      go_simp
      refine (bclone_any ⟨w.heap.size, 0, none⟩ 32 32 id _ (HRD.out _ hS.1) (by decide)).mono ?_
      rintro x w2 ⟨v2, rfl, ho, hb⟩
      obtain ⟨A2, c2, rfl, hr2, _, hn2⟩ := ho.rdn HID.out
      have R2 := bx hr2; have N2 := bx hn2
      have S2 := bx (show Below (w.heap.size + 1) w0 w2 ∧ w.heap.size + 2 ≤ w2.heap.size ∧ ∃ old : Array Value, old.size = 2 ∧ w2.heap[w.heap.size + 1]? = some (.cells old 43 (0, 0)) from ⟨hS.1.trans (hb.mono (by have := hS.2.1; omega)), Nat.le_trans hS.2.1 hb.size, by obtain ⟨old, h7, hk⟩ := hS.2.2; exact ⟨old, h7, (hb.block _ (blk_lt hk)).trans hk⟩⟩)
      clear ho hr2 hn2 hb
      refine hK.out _ _ ?_ (fun hS2 => ?_)
      · exact S2.out
      clear hK K hS; have hS := hS2; clear hS2
      try simp only [Act.put, List.setIfInBounds_toArray, List.set_cons_zero, List.set_cons_succ]
      refine wpAnyH_ready (rs := [5]) (by kernel_rfl) (by simp) ?_
      refine AllReadyH.cons rfl (fun K hK => ?_) AllReadyH.nil
      go_simp
      refine (text_any A2 32 c2 id name _ R2.out N2.out (by decide)).mono ?_
      rintro x w3 ⟨v3, rfl, ho, hb⟩
      obtain ⟨A3, c3, rfl, hr3, _, hn3⟩ := ho.rdn HN1.out
      have R3 := bx hr3; have N3 := bx hn3
      have S3 := bx (show Below (w.heap.size + 1) w0 w3 ∧ w.heap.size + 2 ≤ w3.heap.size ∧ ∃ old : Array Value, old.size = 2 ∧ w3.heap[w.heap.size + 1]? = some (.cells old 43 (0, 0)) from ⟨hS.1.trans (hb.mono (by have := hS.2.1; omega)), Nat.le_trans hS.2.1 hb.size, by obtain ⟨old, h7, hk⟩ := hS.2.2; exact ⟨old, h7, (hb.block _ (blk_lt hk)).trans hk⟩⟩)
      clear ho hr3 hn3 hb
      refine hK.out _ _ ?_ (fun hS2 => ?_)
      · exact S3.out
      clear hK K hS; have hS := hS2; clear hS2
      try simp only [Act.put, List.setIfInBounds_toArray, List.set_cons_zero, List.set_cons_succ]
      refine wpAnyH_ready (rs := [8]) (by kernel_rfl) (by simp) ?_
      refine AllReadyH.cons rfl (fun K hK => ?_) AllReadyH.nil
      go_simp
      refine (text_any A3 n1 c3 _ text _ R3.out N3.out HL1.out).mono ?_
      rintro x w4 ⟨v4, rfl, ho, hb⟩
      have O4 := bx (ho.base_le hS.2.1)
      obtain ⟨A4, c4, rfl, _, hc4, hn4⟩ := ho.rdn (show _ = m by rw [← HD.out]; exact HML.out)
      have C4 := bx hc4; have N4 := bx hn4
      have S4 := bx (show Below (w.heap.size + 1) w0 w4 ∧ w.heap.size + 2 ≤ w4.heap.size ∧ ∃ old : Array Value, old.size = 2 ∧ w4.heap[w.heap.size + 1]? = some (.cells old 43 (0, 0)) from ⟨hS.1.trans (hb.mono (by have := hS.2.1; omega)), Nat.le_trans hS.2.1 hb.size, by obtain ⟨old, h7, hk⟩ := hS.2.2; exact ⟨old, h7, (hb.block _ (blk_lt hk)).trans hk⟩⟩)
      clear ho hc4 hn4 hb
      refine hK.out _ _ ?_ (fun hS2 => ?_)
      · exact S4.out
      clear hK K hS; have hS := hS2; clear hS2
      try simp only [Act.put, List.setIfInBounds_toArray, List.set_cons_zero, List.set_cons_succ]
      refine wpAnyH_ready (rs := [9]) (by kernel_rfl) (by simp) ?_
      refine AllReadyH.cons rfl (fun K hK => ?_) AllReadyH.nil
      go_simp
      refine (fit_big 4 A4 m c4 _ HF.out).mono ?_
      rintro x w5 ⟨rfl, hb⟩
      have O5 := bx (O4.out.kept hb)
      have S5 := bx (show Below (w.heap.size + 1) w0 w5 ∧ w.heap.size + 2 ≤ w5.heap.size ∧ ∃ old : Array Value, old.size = 2 ∧ w5.heap[w.heap.size + 1]? = some (.cells old 43 (0, 0)) from ⟨hS.1.trans (hb.mono (by have := hS.2.1; omega)), Nat.le_trans hS.2.1 hb.size, by obtain ⟨old, h7, hk⟩ := hS.2.2; exact ⟨old, h7, (hb.block _ (blk_lt hk)).trans hk⟩⟩)
      clear hb
      refine hK.out _ _ ?_ (fun hS2 => ?_)
      · exact S5.out
      clear hK K hS; have hS := hS2; clear hS2
      try simp only [Act.put, List.setIfInBounds_toArray, List.set_cons_zero, List.set_cons_succ]
      refine takeH (i := 10) (d := 19) (v := ?_) rfl rfl (by kernel_rfl) (by kernel_rfl) (by kernel_rfl) (fun _ _ _ h => h) (Or.inl ⟨by kernel_rfl, ?_⟩) hS ?_; rotate_left 1; (focus ((intro w' hS'; clear hS'; go_simp; try with_reducible rfl); done))
      try simp only [List.setIfInBounds_toArray, List.set_cons_zero, List.set_cons_succ]
      refine takeH (i := 11) (d := 20) (v := ?_) rfl rfl (by kernel_rfl) (by kernel_rfl) (by kernel_rfl) (fun _ _ _ h => h) (Or.inl ⟨by kernel_rfl, ?_⟩) hS ?_; rotate_left 1; (focus ((intro w' hS'; clear hS'; go_simp; try with_reducible rfl); done))
      try simp only [List.setIfInBounds_toArray, List.set_cons_zero, List.set_cons_succ]
      refine wpAnyH_ready (rs := [12]) (by kernel_rfl) (by simp) ?_
      refine readyH_list rfl (fun K hK => ?_) AllReadyH.nil
      obtain ⟨old, h7, hk⟩ := S5.out.2.2
      refine store_all (cs := objC 0 (.slice none 0 0)) 43 (.tmp 2) (.tmp 19) rfl rfl rfl rfl hk (obj_is _ _ _ _) (by rw [h7]; rfl) (obj_one _ _ _ _) ?_
      intro w9 hu9
      have R9 := bx hu9.same; have O9 := bx (O5.out.upd hu9 (Nat.lt_succ_self _)); have BF := bx (S5.out.1.trans (hu9.below (Nat.le_refl _))); have L9 := bx (show w.heap.size + 2 ≤ w9.heap.size by rw [hu9.size]; exact S5.out.2.1)
      clear hu9 hk h7
      show wpList _ _ K [] (Act.put _ none undef) w9
      refine hK.out _ _ ?_ (fun hS2 => ?_)
      · exact ⟨BF.out, L9.out, _, rfl, R9.out⟩
      clear hK K hS; have hS := hS2; clear hS2
      try simp only [Act.put, List.setIfInBounds_toArray, List.set_cons_zero, List.set_cons_succ]
      refine takeH (i := 13) (d := 3) (v := ?_) rfl rfl (by kernel_rfl) (by kernel_rfl) (by kernel_rfl) (fun _ _ _ h => h) (Or.inl ⟨by kernel_rfl, ?_⟩) hS ?_; rotate_left 1; (focus ((intro w' hS'; clear hS'; go_simp; try with_reducible rfl); done))
      try simp only [List.setIfInBounds_toArray, List.set_cons_zero, List.set_cons_succ]
      refine wpAnyH_done (by kernel_rfl) ?_ _
      go_wp2_with fail
      refine bodyPost_ret (results_ct (cs := objC 0 (.slice none 0 0)) rfl _ _ (w.heap.size + 1) 43 _ _ rfl rfl R9.out Tryd.underlying43 rfl (obj_is _ _ _ _)) rfl ?_
      exact HOUT.out (0, [], 3) none 0 _ HT.out ⟨rfl, fun h => absurd h (by decide)⟩ (fun _ => rfl) (Nat.le_refl _) (B0.out.trans (BF.out.mono (by omega)))
  · have HT : Bx (markO id name text = (0, [], 2)) := ⟨by rw [markO, hkd, if_pos h2]⟩
    have hkb : (kd == 2) = false := by simp [h2]
    have hkn : (kd != 2) = true := by simp [h2]
    clear hkd
    go_enter Tryd.func26, Tryd.ntmps26
    go_upto_region 1 with fail
    rw [LIT.out]
    clear LIT
    go_wp2_with fail
    refine HKD.out.mono ?_
    rintro e w1 ⟨rfl, hb1⟩
    have KR1 := bx ((hb1.block _ (blk_lt K1.out)).trans K1.out)
    have B1 := bx (B0.out.trans (hb1.mono B0.out.size))
    clear hb1 HKD z0
    go_wp2_with (first
      | ((with_reducible refine at_build 8 ?_); go_must (refine wpList_build2 rfl 43 [] rfl [] rfl (objC 0 (.slice none 0 0)) obj_built0 ?_))
      | ((with_reducible refine at_store (.tmp 2) (.tmp 8) ?_); go_must (refine store_all (cs := objC 0 (.slice none 0 0)) 43 (.tmp 2) (.tmp 8) rfl rfl rfl rfl KR1.out (obj_is _ _ _ _) rfl (obj_one _ _ _ _) ?_; intro w9 hu9; have B9 := bx (B1.out.trans (hu9.below (Nat.le_succ _))); have R9 := bx hu9.same; clear hu9)))
    refine bodyPost_ret (results_ct (cs := objC 0 (.slice none 0 0)) rfl _ _ (w.heap.size + 1) 43 _ _ rfl rfl R9.out Tryd.underlying43 rfl (obj_is _ _ _ _)) rfl ?_
    exact HOUT.out (0, [], 2) none 0 _ HT.out ⟨rfl, fun h => absurd h (by decide)⟩ (fun _ => rfl) (Nat.le_refl _) B9.out
end Go.Proofs.YthnommoljikaiaaDoor
