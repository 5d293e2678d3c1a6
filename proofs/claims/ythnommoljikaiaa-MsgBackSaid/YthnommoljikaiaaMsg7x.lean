/- Messages: ReadRequest, ReadReply. -/
import Derived.Test.YthnommoljikaiaaMsg6
import Derived.Test.YthnommoljikaiaaFrm7
set_option linter.unusedSimpArgs false
set_option linter.unusedVariables false
namespace Go.Proofs.Ythnommoljikaiaa
open Go.RowKit

theorem openOf_isB {bs : List Int} (h : IsB bs) : IsB (openOf bs).2.1 ∧ (openOf bs).2.1.length ≤ bs.length := by
  unfold openOf
  split
  · exact ⟨isB_nil, Nat.zero_le _⟩
  · dsimp only
    unfold readOf
    split
    · exact ⟨isB_nil, Nat.zero_le _⟩
    · split
      · exact ⟨isB_nil, Nat.zero_le _⟩
      · split
        · exact ⟨isB_nil, Nat.zero_le _⟩
        · exact ⟨isB_take (isB_drop h 8) _, by simp only [List.length_take, List.length_drop]; omega⟩
theorem frameM_isB {kind : Int} {bs : List Int} (hk : 0 ≤ kind ∧ kind < 256) (hb : IsB bs) : IsB (frameOf kind bs) := by
  have hh : IsB (frameHead kind bs) := isB_append (isB_append (isB_append (isB_cons (by decide) (isB_cons (by decide) (isB_cons (by decide) isB_nil))) (isB_one hk)) (be_isB _ _)) hb
  exact isB_append hh (isB_take (shaOf_isB _) 4)
theorem namesR_isB : ∀ (n : Nat) (s : List Int × Int), IsB s.1 → IsB (namesR n s).1 ∧ IsB (namesR n s).2.1 ∧ (namesR n s).2.1.length ≤ s.1.length
  | 0, s, h => ⟨isB_nil, h, Nat.le_refl _⟩
  | n + 1, s, h => by
    rw [namesR]
    split
    · have h2 : IsB (stepR s 16).1 := rRest_isB h _ _
      have := namesR_isB n (stepR s 16) h2
      exact ⟨isB_append (nmR_isB h _) this.1, this.2.1, Nat.le_trans this.2.2 (rRest_le _ _ _)⟩
    · exact ⟨isB_nil, h, Nat.le_refl _⟩
theorem sOut_isB {bs : List Int} (h : IsB bs) (bad : Int) : IsB (sOut bs bad) := by
  unfold sOut
  split
  · exact isB_nil
  · exact rOut_isB (rRest_isB h _ _) _ _
theorem readM_ok (named : Bool) {bs : List Int} (hB : IsB bs) : (readM named bs).nm.length = 16 ∧ IsB (readM named bs).nm ∧ IsB (readM named bs).flat ∧ IsB (readM named bs).ds ∧ ((readM named bs).nm = zero16 ∨ named = true) := by
  obtain ⟨s1, s2, s3, s4, s5, s6, h1, h2, h3, h4, h5, h6, hm⟩ := readM_is named bs
  rw [hm]
  clear hm
  have b1 : IsB s1.1 := by rw [h1]; unfold stepR; dsimp only; exact rRest_isB hB _ _
  have b2 : IsB s2.1 := by rw [h2]; show IsB (rRest _ _ _); exact rRest_isB b1 _ _
  have b3 : IsB s3.1 := by rw [h3]; show IsB (rRest _ _ _); exact rRest_isB b2 _ _
  have b4 : IsB s4.1 := by rw [h4]; split; (show IsB (rRest _ _ _); exact rRest_isB b3 _ _); exact b3
  have b5 : IsB s5.1 := by rw [h5]; show IsB (rRest _ _ _); exact rRest_isB b4 _ _
  have b6 : IsB s6.1 := by rw [h6]; show IsB (rRest _ _ _); exact rRest_isB b5 _ _
  have hn := namesR_isB (numR s5 2).toNat s6 b6
  refine ⟨?_, ?_, hn.1, sOut_isB hn.2.1 _, ?_⟩
  · show (if named then nmS s3 else zero16).length = 16
    split; exact nmS_length _; rfl
  · show IsB (if named then nmS s3 else zero16)
    split; exact nmR_isB b3 _; exact zero16_isB
  · show (if named then nmS s3 else zero16) = zero16 ∨ named = true
    cases named
    · exact .inl rfl
    · exact .inr rfl
theorem core_nmx (c k i g : Int) (nm : List Int) (h : nm.length = 16) : (coreCells c k i g nm).extract 4 (4 + 16) = ints .u8 nm := by
  obtain ⟨a0, a1, a2, a3, a4, a5, a6, a7, a8, a9, a10, a11, a12, a13, a14, a15, rfl⟩ := sixteen nm h
  rfl
theorem req_built (c i k : Int) (nm : List Int) (g : Int) (A : Option Addr) (n cap : Nat) (A2 : Option Addr) (n2 cap2 : Nat) (h : nm.length = 16) : Try.prog.built 116 [(0, .int .i64 c), (1, .int .u64 i), (2, .int .i64 k), (3, .agg (ints .u8 nm)), (4, .int .u64 g), (5, .slice A n cap), (6, .slice A2 n2 cap2)] = some (reqCells c i k nm g (.slice A n cap) (.slice A2 n2 cap2)) := by
  obtain ⟨a0, a1, a2, a3, a4, a5, a6, a7, a8, a9, a10, a11, a12, a13, a14, a15, rfl⟩ := sixteen nm h
  kernel_rfl
theorem rep_built (c i k g : Int) (A : Option Addr) (n cap : Nat) (A2 : Option Addr) (n2 cap2 : Nat) : Try.prog.built 118 [(0, .int .i64 c), (1, .int .u64 i), (2, .int .i64 k), (3, .int .u64 g), (4, .slice A n cap), (5, .slice A2 n2 cap2)] = some (repCells c i k g (.slice A n cap) (.slice A2 n2 cap2)) := by kernel_rfl
def nilV : Value := .slice none 0 0
theorem req_built0 : Try.prog.built 116 [] = some (reqCells 0 0 0 zero16 0 nilV nilV) := by kernel_rfl
theorem rep_built0 : Try.prog.built 118 [] = some (repCells 0 0 0 0 nilV nilV) := by kernel_rfl
theorem req_one (c i k : Int) (nm : List Int) (g : Int) (A : Option Addr) (n cap : Nat) (A2 : Option Addr) (n2 cap2 : Nat) : ∀ v ∈ (reqCells c i k nm g (.slice A n cap) (.slice A2 n2 cap2)).toList, v.oneCell' = true := by
  intro v hv
  simp only [reqCells, reqList, List.mem_cons, List.mem_append, List.mem_map, List.not_mem_nil, or_false] at hv
  rcases hv with rfl | rfl | rfl | ⟨x, _, rfl⟩ | rfl | rfl | rfl <;> rfl
theorem rep_one (c i k g : Int) (A : Option Addr) (n cap : Nat) (A2 : Option Addr) (n2 cap2 : Nat) : ∀ v ∈ (repCells c i k g (.slice A n cap) (.slice A2 n2 cap2)).toList, v.oneCell' = true := by
  intro v hv
  simp only [repCells, List.mem_cons, List.not_mem_nil, or_false] at hv
  rcases hv with rfl | rfl | rfl | rfl | rfl | rfl <;> rfl
def goodR (kind lo hi : Int) (named : Bool) (m : MsgR) (bs : List Int) : Bool := decide (putM kind lo hi named m.c m.k m.i m.g m.nm (m.flat.length / 16) m.flat m.ds.length m.ds = (bs, 0))
def ReadP (w : World) (good : Bool) (cs0 : Array Value) (mk : Value → Value → Array Value) (m : MsgR) (e : Ending) (w' : World) : Prop := ∃ v2 n2 v3, e = .returned (.tuple #[.agg (if good then mk v2 v3 else cs0), .int .i64 (if good then 0 else 11)]) ∧ OwN w' w.heap.size v2 n2 m.flat ∧ OwB w' w.heap.size v3 m.ds ∧ Below w.heap.size w w'
theorem putM_isB {kind lo hi : Int} {named : Bool} {c k i g : Int} {nm : List Int} {n2 : Nat} {flat : List Int} {n3 : Nat} {ds : List Int} (hk : 0 ≤ kind ∧ kind < 256) (hlo : 0 ≤ lo) (hhi : hi ≤ 255) (h : IsB nm) (h2 : IsB flat) (h3 : IsB ds) : IsB (putM kind lo hi named c k i g nm n2 flat n3 ds).1 := by
  unfold putM
  split
  · rename_i hm
    have hm := mayB_true hm
    exact frameM_isB hk (bodyM_isB ⟨by omega, by omega⟩ ⟨by omega, by omega⟩ h h2 h3)
  · exact isB_nil
set_option maxRecDepth 100000 in
set_option maxHeartbeats 2000000 in
theorem readq_any (A : Option Addr) (n cap : Nat) (bs : List Int) (w : World) (hrd : RdB w A n bs) (hnil : A = none → cap = 0) (hcap : n ≤ cap) (hB : IsB bs) (hbig : n ≤ 8796093022208) (m : MsgR) (hm : readM true (openOf bs).2.1 = m) :
    Calls Try.prog 62 #[.slice A n cap] w (ReadP w (goodR 1 1 6 true m bs) (reqCells 0 0 0 zero16 0 nilV nilV) (reqCells m.c m.i m.k m.nm m.g) m) := by
  have ox := openOf_isB hB
  have hok := readM_ok true ox.1
  rw [hm] at hok
  obtain ⟨x, hx⟩ : ∃ x, (openOf bs).2.1 = x := ⟨_, rfl⟩
  rw [hx] at ox hm
  obtain ⟨good, hgood⟩ : ∃ good, goodR 1 1 6 true m bs = good := ⟨_, rfl⟩
  rw [hgood]
  obtain ⟨c, k, i, g, nm, flat, ds⟩ := m
  dsimp only at hok
  obtain ⟨hnl, hnb, hfb, hdb, hz⟩ := hok
  have hpb : IsB (putM 1 1 6 true c k i g nm (flat.length / 16) flat ds.length ds).1 := putM_isB (by decide) (by decide) (by decide) hnb hfb hdb
  unfold goodR at hgood
  dsimp only at hgood
  obtain ⟨⟨L, er⟩, hpm⟩ : ∃ pm, putM 1 1 6 true c k i g nm (flat.length / 16) flat ds.length ds = pm := ⟨_, rfl⟩
  rw [hpm] at hgood hpb
  have her : er = 0 ∨ er = 2 := by
    unfold putM at hpm
    split at hpm <;> cases hpm
    · exact .inl rfl
    · exact .inr rfl
  have HRD := bx hrd; have HNIL := bx hnil; have HB := bx hB; have HX := bx hx; have HOX := bx ox; have HM := bx hm
  have HNL := bx hnl; have HNB := bx hnb; have HFB := bx hfb; have HDB := bx hdb; have HZ := bx hz; have HPM := bx hpm; have HPB := bx hpb; have HG := bx hgood; have HN := bx hrd.1
  clear hrd hnil hB hx ox hm hnl hnb hfb hdb hz hpm hpb hgood
  have LIT : Bx (∀ w : World, w.alloc (.cells #[.int .i64 0, .int .u64 0, .int .i64 0, .int .u8 0, .int .u8 0, .int .u8 0, .int .u8 0, .int .u8 0, .int .u8 0, .int .u8 0, .int .u8 0, .int .u8 0, .int .u8 0, .int .u8 0, .int .u8 0, .int .u8 0, .int .u8 0, .int .u8 0, .int .u8 0, .int .u64 0, .slice none 0 0, .slice none 0 0] 116) = w.alloc (.cells (reqCells 0 0 0 zero16 0 nilV nilV) 116)) := ⟨fun _ => rfl⟩
  obtain ⟨w0, hw0⟩ : ∃ w0, w0 = w.alloc (.cells (reqCells 0 0 0 zero16 0 nilV nilV) 116) := ⟨_, rfl⟩
  have K0 : Bx (w0.heap[w.heap.size]? = some (.cells (reqCells 0 0 0 zero16 0 nilV nilV) 116 (0, 0))) := ⟨by rw [hw0]; exact blk_new w _⟩
  have B0 : Bx (Below w.heap.size w w0) := ⟨by rw [hw0]; exact (Below.refl _ _).alloc (Nat.le_refl _) _⟩
  have HW := bx hw0
  clear hw0
  go_enter Try.func62, Try.ntmps62
  go_wp2_with fail
  rw [LIT.out, ← HW.out]
  clear HW LIT
  refine (open_any A n cap bs _ (HRD.out.below B0.out) HNIL.out hcap HB.out hbig).mono ?_
  rintro e w1 ⟨v1, rfl, hv, hb⟩
  rw [HX.out] at hv
  obtain ⟨A1, c1, rfl, hr1, hc1, hn1⟩ := hv
  have R1 := bx hr1; have N1 := bx hn1; have B1 := bx (B0.out.trans (hb.mono B0.out.size)); have K1 := bx ((hb.block _ (blk_lt K0.out)).trans K0.out)
  clear hr1 hn1 hc1 hb B0 K0
  obtain ⟨o1, ho1⟩ : ∃ o1, (openOf bs).1 = o1 := ⟨_, rfl⟩
  obtain ⟨o3, ho3⟩ : ∃ o3, (openOf bs).2.2 = o3 := ⟨_, rfl⟩
  rw [ho1, ho3]
  clear ho1 ho3
  go_wp2_with fail
  refine (mread_any true A1 x.length c1 x _ R1.out N1.out HOX.out.1 (by have := HOX.out.2; have := HN.out; omega)).mono ?_
  rintro e w2 ⟨v2, n2, v3, rfl, hown, hob, hb⟩
  rw [HM.out] at hown hob ⊢
  dsimp only at hown hob ⊢
  have hlen := hown.len
  obtain ⟨A2, c2, rfl, hr2, hn2⟩ := hown.rd
  obtain ⟨A3, c3, rfl, hr3, hc3, hn3⟩ := hob.rdn rfl
  have O2 := bx (hown.base_le (show w.heap.size + 1 ≤ w1.heap.size from blk_lt K1.out)); have V2 := bx (hob.base_le (show w.heap.size + 1 ≤ w1.heap.size from blk_lt K1.out)); have R2 := bx hr2; have R3 := bx hr3; have N3 := bx hn3
  have B2 := bx (B1.out.trans (hb.mono B1.out.size)); have K2 := bx ((hb.block _ (blk_lt K1.out)).trans K1.out)
  have hl16 : flat.length / 16 = n2 := by omega
  rw [hl16] at HPM
  clear hown hob hr2 hr3 hn2 hc3 hn3 hb R1 N1 B1 K1 hlen
  go_wp2_with (first
    | ((with_reducible refine at_store (.tmp 7) (.tmp 22) ?_); go_must (refine store_all (cs := coreCells c k i g nm) 187 (.tmp 7) (.tmp 22) rfl rfl rfl rfl (blk_new w2 _) (core_is HNL.out) (by rw [core_size _ _ _ _ _ HNL.out]; rfl) (core_one _ _ _ _ _) ?_; intro w3 hu3; have b3 := ((Below.refl w2.heap.size w2).alloc (Nat.le_refl _) _).trans (hu3.below (Nat.le_refl _)); have C3 := bx hu3.same; have O3 := bx (O2.out.kept b3); have V3 := bx (V2.out.kept b3); have R23 := bx (R2.out.below b3); have R33 := bx (R3.out.below b3); have K3 := bx ((b3.block _ (blk_lt K2.out)).trans K2.out); have B3 := bx (B2.out.trans (b3.mono B2.out.size)); have q0 : w3.cell? ⟨w2.heap.size, 0, none⟩ = some (.int .i64 c) := blk_cell C3.out rfl; have q1 : w3.cell? ⟨w2.heap.size, 1, none⟩ = some (.int .i64 k) := blk_cell C3.out rfl; have q2 : w3.cell? ⟨w2.heap.size, 2, none⟩ = some (.int .u64 i) := blk_cell C3.out rfl; have q3 : w3.cell? ⟨w2.heap.size, 3, none⟩ = some (.int .u64 g) := blk_cell C3.out rfl; clear hu3 b3 O2 V2 R2 R3 K2 B2))
    | ((with_reducible refine at_load 32 ?_); go_must (refine wpList_load_agg rfl 113 (.tmp 31) rfl w2.heap.size 4 rfl 187 (coreCells c k i g nm) 16 _ C3.out Try.underlying113 rfl name_info (by rw [core_size _ _ _ _ _ HNL.out]; decide) (ints .u8 nm) (core_nmx c k i g nm HNL.out) ?_))
    | ((with_reducible refine at_build 37 ?_); go_must (refine wpList_build2 rfl 116 [(0, .tmp 26), (1, .tmp 28), (2, .tmp 30), (3, .tmp 32), (4, .tmp 34), (5, .tmp 35), (6, .tmp 36)] rfl _ rfl _ (req_built c i k nm g A2 n2 c2 A3 ds.length c3 HNL.out) ?_))
    | ((with_reducible refine at_store (.tmp 10) (.tmp 37) ?_); go_must (refine store_all (cs := reqCells c i k nm g (.slice A2 n2 c2) (.slice A3 ds.length c3)) 116 (.tmp 10) (.tmp 37) rfl rfl rfl rfl (blk_new w3 _) (req_is HNL.out) (by rw [req_size _ _ _ _ _ _ _ HNL.out]; rfl) (req_one _ _ _ _ _ _ _ _ _ _ _) ?_; intro w4 hu4; have b4 := ((Below.refl w3.heap.size w3).alloc (Nat.le_refl _) _).trans (hu4.below (Nat.le_refl _)); have C4 := bx hu4.same; have O4 := bx (O3.out.kept b4); have V4 := bx (V3.out.kept b4); have R24 := bx (R23.out.below b4); have R34 := bx (R33.out.below b4); have K4 := bx ((b4.block _ (blk_lt K3.out)).trans K3.out); have B4 := bx (B3.out.trans (b4.mono B3.out.size)); clear hu4 b4 O3 V3 R23 R33 K3 B3 q0 q1 q2 q3))
    | ((with_reducible refine at_load 39 ?_); go_must (refine load_all 116 (.tmp 10) rfl rfl rfl C4.out Try.underlying116 rfl (req_is HNL.out) ?_)))
  have hput := putq_any c k i g nm A2 n2 c2 flat A3 ds.length c3 ds w4 HNL.out R24.out R34.out N3.out HNB.out HFB.out HDB.out (by first | exact HZ.out | exact .inr rfl)
  simp only [if_true, Bool.false_eq_true, if_false] at hput
  rw [HPM.out] at hput
  refine hput.mono ?_
  rintro e w5 ⟨A5, c5, rfl, hr5, hn5, hc5, hb5⟩
  dsimp only at hr5 hc5 ⊢
  have R5 := bx hr5; have C5 := bx ((hb5.block _ (blk_lt C4.out)).trans C4.out); have O5 := bx (O4.out.kept hb5); have V5 := bx (V4.out.kept hb5); have K5 := bx ((hb5.block _ (blk_lt K4.out)).trans K4.out); have B5 := bx (B4.out.trans (hb5.mono B4.out.size))
  clear hput hr5 hn5 hc5 hb5 C4 O4 V4 R24 R34 K4 B4 C3
  have cases3 : (er = 2 ∧ good = false) ∨ (er = 0 ∧ L ≠ bs ∧ good = false) ∨ (er = 0 ∧ L = bs ∧ good = true) := by
    have hg := HG.out
    rcases her with rfl | rfl
    · by_cases hl : L = bs
      · exact .inr (.inr ⟨rfl, hl, by rw [← hg, hl]; simp⟩)
      · exact .inr (.inl ⟨rfl, hl, by rw [← hg]; simp [hl]⟩)
    · exact .inl ⟨rfl, by rw [← hg]; simp⟩
  have HEQ := bx (equal_any A5 L.length c5 L A n cap bs)
  clear her HG
  rcases cases3 with ⟨rfl, rfl⟩ | ⟨rfl, hl0, rfl⟩ | ⟨rfl, hl0, rfl⟩
  · go_wp2_with (first
      | ((with_reducible refine at_build 51 ?_); go_must (refine wpList_build2 rfl 116 [] rfl [] rfl _ req_built0 ?_))
      | ((with_reducible refine at_store (.tmp 2) (.tmp 51) ?_); go_must (refine store_all (cs := reqCells 0 0 0 zero16 0 nilV nilV) 116 (.tmp 2) (.tmp 51) rfl rfl rfl rfl K5.out (req_is rfl) rfl (req_one _ _ _ _ _ _ _ _ _ _ _) ?_; intro w9 hu9)))
    refine bodyPost_ret (results_ct (cs := reqCells 0 0 0 zero16 0 nilV nilV) rfl _ _ w.heap.size 116 _ _ rfl rfl hu9.same Try.underlying116 rfl (req_is rfl)) rfl ?_
    exact ⟨_, _, _, rfl, (O5.out.upd hu9 (Nat.lt_succ_self _)).base_le (Nat.le_succ _), (V5.out.upd hu9 (Nat.lt_succ_self _)).base_le (Nat.le_succ _), B5.out.trans (hu9.below (Nat.le_refl _))⟩
  · have HL9 := bx hl0
    clear hl0
    go_wp2_with fail
    refine (HEQ.out _ R5.out (HRD.out.below B5.out) HPB.out HB.out).mono ?_
    rintro e w6 ⟨rfl, rfl⟩
    rw [decide_eq_false HL9.out]
    clear HEQ
    go_wp2_with (first
      | ((with_reducible refine at_build 51 ?_); go_must (refine wpList_build2 rfl 116 [] rfl [] rfl _ req_built0 ?_))
      | ((with_reducible refine at_store (.tmp 2) (.tmp 51) ?_); go_must (refine store_all (cs := reqCells 0 0 0 zero16 0 nilV nilV) 116 (.tmp 2) (.tmp 51) rfl rfl rfl rfl K5.out (req_is rfl) rfl (req_one _ _ _ _ _ _ _ _ _ _ _) ?_; intro w9 hu9)))
    refine bodyPost_ret (results_ct (cs := reqCells 0 0 0 zero16 0 nilV nilV) rfl _ _ w.heap.size 116 _ _ rfl rfl hu9.same Try.underlying116 rfl (req_is rfl)) rfl ?_
    exact ⟨_, _, _, rfl, (O5.out.upd hu9 (Nat.lt_succ_self _)).base_le (Nat.le_succ _), (V5.out.upd hu9 (Nat.lt_succ_self _)).base_le (Nat.le_succ _), B5.out.trans (hu9.below (Nat.le_refl _))⟩
  · have HL9 := bx hl0
    clear hl0
    go_wp2_with fail
    refine (HEQ.out _ R5.out (HRD.out.below B5.out) HPB.out HB.out).mono ?_
    rintro e w6 ⟨rfl, rfl⟩
    rw [decide_eq_true HL9.out]
    clear HEQ
    go_wp2_with (first
      | ((with_reducible refine at_load 52 ?_); go_must (refine load_all 116 (.tmp 10) rfl rfl rfl C5.out Try.underlying116 rfl (req_is HNL.out) ?_))
      | ((with_reducible refine at_store (.tmp 2) (.tmp 52) ?_); go_must (refine store_all (cs := reqCells c i k nm g (.slice A2 n2 c2) (.slice A3 ds.length c3)) 116 (.tmp 2) (.tmp 52) rfl rfl rfl rfl K5.out (req_is HNL.out) (by rw [req_size _ _ _ _ _ _ _ HNL.out, req_size _ _ _ _ _ _ _ rfl]) (req_one _ _ _ _ _ _ _ _ _ _ _) ?_; intro w9 hu9)))
    refine bodyPost_ret (results_ct (cs := reqCells c i k nm g (.slice A2 n2 c2) (.slice A3 ds.length c3)) rfl _ _ w.heap.size 116 _ _ rfl rfl hu9.same Try.underlying116 rfl (req_is HNL.out)) rfl ?_
    exact ⟨_, _, _, rfl, (O5.out.upd hu9 (Nat.lt_succ_self _)).base_le (Nat.le_succ _), (V5.out.upd hu9 (Nat.lt_succ_self _)).base_le (Nat.le_succ _), B5.out.trans (hu9.below (Nat.le_refl _))⟩
set_option maxRecDepth 100000 in
set_option maxHeartbeats 2000000 in
theorem readp_any (A : Option Addr) (n cap : Nat) (bs : List Int) (w : World) (hrd : RdB w A n bs) (hnil : A = none → cap = 0) (hcap : n ≤ cap) (hB : IsB bs) (hbig : n ≤ 8796093022208) (m : MsgR) (hm : readM false (openOf bs).2.1 = m) :
    Calls Try.prog 63 #[.slice A n cap] w (ReadP w (goodR 2 0 9 false m bs) (repCells 0 0 0 0 nilV nilV) (repCells m.c m.i m.k m.g) m) := by
  have ox := openOf_isB hB
  have hok := readM_ok false ox.1
  rw [hm] at hok
  obtain ⟨x, hx⟩ : ∃ x, (openOf bs).2.1 = x := ⟨_, rfl⟩
  rw [hx] at ox hm
  obtain ⟨good, hgood⟩ : ∃ good, goodR 2 0 9 false m bs = good := ⟨_, rfl⟩
  rw [hgood]
  obtain ⟨c, k, i, g, nm, flat, ds⟩ := m
  dsimp only at hok
  obtain ⟨hnl, hnb, hfb, hdb, hz⟩ := hok
  have hpb : IsB (putM 2 0 9 false c k i g nm (flat.length / 16) flat ds.length ds).1 := putM_isB (by decide) (by decide) (by decide) hnb hfb hdb
  unfold goodR at hgood
  dsimp only at hgood
  obtain ⟨⟨L, er⟩, hpm⟩ : ∃ pm, putM 2 0 9 false c k i g nm (flat.length / 16) flat ds.length ds = pm := ⟨_, rfl⟩
  rw [hpm] at hgood hpb
  have her : er = 0 ∨ er = 2 := by
    unfold putM at hpm
    split at hpm <;> cases hpm
    · exact .inl rfl
    · exact .inr rfl
  have HRD := bx hrd; have HNIL := bx hnil; have HB := bx hB; have HX := bx hx; have HOX := bx ox; have HM := bx hm
  have HNL := bx hnl; have HNB := bx hnb; have HFB := bx hfb; have HDB := bx hdb; have HZ := bx hz; have HPM := bx hpm; have HPB := bx hpb; have HG := bx hgood; have HN := bx hrd.1
  clear hrd hnil hB hx ox hm hnl hnb hfb hdb hz hpm hpb hgood
  have LIT : Bx (∀ w : World, w.alloc (.cells #[.int .i64 0, .int .u64 0, .int .i64 0, .int .u64 0, .slice none 0 0, .slice none 0 0] 118) = w.alloc (.cells (repCells 0 0 0 0 nilV nilV) 118)) := ⟨fun _ => rfl⟩
  obtain ⟨w0, hw0⟩ : ∃ w0, w0 = w.alloc (.cells (repCells 0 0 0 0 nilV nilV) 118) := ⟨_, rfl⟩
  have K0 : Bx (w0.heap[w.heap.size]? = some (.cells (repCells 0 0 0 0 nilV nilV) 118 (0, 0))) := ⟨by rw [hw0]; exact blk_new w _⟩
  have B0 : Bx (Below w.heap.size w w0) := ⟨by rw [hw0]; exact (Below.refl _ _).alloc (Nat.le_refl _) _⟩
  have HW := bx hw0
  clear hw0
  go_enter Try.func63, Try.ntmps63
  go_wp2_with fail
  rw [LIT.out, ← HW.out]
  clear HW LIT
  refine (open_any A n cap bs _ (HRD.out.below B0.out) HNIL.out hcap HB.out hbig).mono ?_
  rintro e w1 ⟨v1, rfl, hv, hb⟩
  rw [HX.out] at hv
  obtain ⟨A1, c1, rfl, hr1, hc1, hn1⟩ := hv
  have R1 := bx hr1; have N1 := bx hn1; have B1 := bx (B0.out.trans (hb.mono B0.out.size)); have K1 := bx ((hb.block _ (blk_lt K0.out)).trans K0.out)
  clear hr1 hn1 hc1 hb B0 K0
  obtain ⟨o1, ho1⟩ : ∃ o1, (openOf bs).1 = o1 := ⟨_, rfl⟩
  obtain ⟨o3, ho3⟩ : ∃ o3, (openOf bs).2.2 = o3 := ⟨_, rfl⟩
  rw [ho1, ho3]
  clear ho1 ho3
  go_wp2_with fail
  refine (mread_any false A1 x.length c1 x _ R1.out N1.out HOX.out.1 (by have := HOX.out.2; have := HN.out; omega)).mono ?_
  rintro e w2 ⟨v2, n2, v3, rfl, hown, hob, hb⟩
  rw [HM.out] at hown hob ⊢
  dsimp only at hown hob ⊢
  have hlen := hown.len
  obtain ⟨A2, c2, rfl, hr2, hn2⟩ := hown.rd
  obtain ⟨A3, c3, rfl, hr3, hc3, hn3⟩ := hob.rdn rfl
  have O2 := bx (hown.base_le (show w.heap.size + 1 ≤ w1.heap.size from blk_lt K1.out)); have V2 := bx (hob.base_le (show w.heap.size + 1 ≤ w1.heap.size from blk_lt K1.out)); have R2 := bx hr2; have R3 := bx hr3; have N3 := bx hn3
  have B2 := bx (B1.out.trans (hb.mono B1.out.size)); have K2 := bx ((hb.block _ (blk_lt K1.out)).trans K1.out)
  have hl16 : flat.length / 16 = n2 := by omega
  rw [hl16] at HPM
  clear hown hob hr2 hr3 hn2 hc3 hn3 hb R1 N1 B1 K1 hlen
  go_wp2_with (first
    | ((with_reducible refine at_store (.tmp 7) (.tmp 22) ?_); go_must (refine store_all (cs := coreCells c k i g nm) 187 (.tmp 7) (.tmp 22) rfl rfl rfl rfl (blk_new w2 _) (core_is HNL.out) (by rw [core_size _ _ _ _ _ HNL.out]; rfl) (core_one _ _ _ _ _) ?_; intro w3 hu3; have b3 := ((Below.refl w2.heap.size w2).alloc (Nat.le_refl _) _).trans (hu3.below (Nat.le_refl _)); have C3 := bx hu3.same; have O3 := bx (O2.out.kept b3); have V3 := bx (V2.out.kept b3); have R23 := bx (R2.out.below b3); have R33 := bx (R3.out.below b3); have K3 := bx ((b3.block _ (blk_lt K2.out)).trans K2.out); have B3 := bx (B2.out.trans (b3.mono B2.out.size)); have q0 : w3.cell? ⟨w2.heap.size, 0, none⟩ = some (.int .i64 c) := blk_cell C3.out rfl; have q1 : w3.cell? ⟨w2.heap.size, 1, none⟩ = some (.int .i64 k) := blk_cell C3.out rfl; have q2 : w3.cell? ⟨w2.heap.size, 2, none⟩ = some (.int .u64 i) := blk_cell C3.out rfl; have q3 : w3.cell? ⟨w2.heap.size, 3, none⟩ = some (.int .u64 g) := blk_cell C3.out rfl; clear hu3 b3 O2 V2 R2 R3 K2 B2))
    | ((with_reducible refine at_build 35 ?_); go_must (refine wpList_build2 rfl 118 [(0, .tmp 26), (1, .tmp 28), (2, .tmp 30), (3, .tmp 32), (4, .tmp 33), (5, .tmp 34)] rfl _ rfl _ (rep_built c i k g A2 n2 c2 A3 ds.length c3) ?_))
    | ((with_reducible refine at_store (.tmp 10) (.tmp 35) ?_); go_must (refine store_all (cs := repCells c i k g (.slice A2 n2 c2) (.slice A3 ds.length c3)) 118 (.tmp 10) (.tmp 35) rfl rfl rfl rfl (blk_new w3 _) rep_is rfl (rep_one _ _ _ _ _ _ _ _ _ _) ?_; intro w4 hu4; have b4 := ((Below.refl w3.heap.size w3).alloc (Nat.le_refl _) _).trans (hu4.below (Nat.le_refl _)); have C4 := bx hu4.same; have O4 := bx (O3.out.kept b4); have V4 := bx (V3.out.kept b4); have R24 := bx (R23.out.below b4); have R34 := bx (R33.out.below b4); have K4 := bx ((b4.block _ (blk_lt K3.out)).trans K3.out); have B4 := bx (B3.out.trans (b4.mono B3.out.size)); clear hu4 b4 O3 V3 R23 R33 K3 B3 q0 q1 q2 q3))
    | ((with_reducible refine at_load 37 ?_); go_must (refine load_all 118 (.tmp 10) rfl rfl rfl C4.out Try.underlying118 rfl rep_is ?_)))
  have hput := putp_any c k i g nm A2 n2 c2 flat A3 ds.length c3 ds w4 HNL.out R24.out R34.out N3.out HNB.out HFB.out HDB.out (by first | exact HZ.out | exact .inr rfl)
  simp only [if_true, Bool.false_eq_true, if_false] at hput
  rw [HPM.out] at hput
  refine hput.mono ?_
  rintro e w5 ⟨A5, c5, rfl, hr5, hn5, hc5, hb5⟩
  dsimp only at hr5 hc5 ⊢
  have R5 := bx hr5; have C5 := bx ((hb5.block _ (blk_lt C4.out)).trans C4.out); have O5 := bx (O4.out.kept hb5); have V5 := bx (V4.out.kept hb5); have K5 := bx ((hb5.block _ (blk_lt K4.out)).trans K4.out); have B5 := bx (B4.out.trans (hb5.mono B4.out.size))
  clear hput hr5 hn5 hc5 hb5 C4 O4 V4 R24 R34 K4 B4 C3
  have cases3 : (er = 2 ∧ good = false) ∨ (er = 0 ∧ L ≠ bs ∧ good = false) ∨ (er = 0 ∧ L = bs ∧ good = true) := by
    have hg := HG.out
    rcases her with rfl | rfl
    · by_cases hl : L = bs
      · exact .inr (.inr ⟨rfl, hl, by rw [← hg, hl]; simp⟩)
      · exact .inr (.inl ⟨rfl, hl, by rw [← hg]; simp [hl]⟩)
    · exact .inl ⟨rfl, by rw [← hg]; simp⟩
  have HEQ := bx (equal_any A5 L.length c5 L A n cap bs)
  clear her HG
  rcases cases3 with ⟨rfl, rfl⟩ | ⟨rfl, hl0, rfl⟩ | ⟨rfl, hl0, rfl⟩
  · go_wp2_with (first
      | ((with_reducible refine at_build 49 ?_); go_must (refine wpList_build2 rfl 118 [] rfl [] rfl _ rep_built0 ?_))
      | ((with_reducible refine at_store (.tmp 2) (.tmp 49) ?_); go_must (refine store_all (cs := repCells 0 0 0 0 nilV nilV) 118 (.tmp 2) (.tmp 49) rfl rfl rfl rfl K5.out rep_is rfl (rep_one _ _ _ _ _ _ _ _ _ _) ?_; intro w9 hu9)))
    refine bodyPost_ret (results_ct (cs := repCells 0 0 0 0 nilV nilV) rfl _ _ w.heap.size 118 _ _ rfl rfl hu9.same Try.underlying118 rfl rep_is) rfl ?_
    exact ⟨_, _, _, rfl, (O5.out.upd hu9 (Nat.lt_succ_self _)).base_le (Nat.le_succ _), (V5.out.upd hu9 (Nat.lt_succ_self _)).base_le (Nat.le_succ _), B5.out.trans (hu9.below (Nat.le_refl _))⟩
  · have HL9 := bx hl0
    clear hl0
    go_wp2_with fail
    refine (HEQ.out _ R5.out (HRD.out.below B5.out) HPB.out HB.out).mono ?_
    rintro e w6 ⟨rfl, rfl⟩
    rw [decide_eq_false HL9.out]
    clear HEQ
    go_wp2_with (first
      | ((with_reducible refine at_build 49 ?_); go_must (refine wpList_build2 rfl 118 [] rfl [] rfl _ rep_built0 ?_))
      | ((with_reducible refine at_store (.tmp 2) (.tmp 49) ?_); go_must (refine store_all (cs := repCells 0 0 0 0 nilV nilV) 118 (.tmp 2) (.tmp 49) rfl rfl rfl rfl K5.out rep_is rfl (rep_one _ _ _ _ _ _ _ _ _ _) ?_; intro w9 hu9)))
    refine bodyPost_ret (results_ct (cs := repCells 0 0 0 0 nilV nilV) rfl _ _ w.heap.size 118 _ _ rfl rfl hu9.same Try.underlying118 rfl rep_is) rfl ?_
    exact ⟨_, _, _, rfl, (O5.out.upd hu9 (Nat.lt_succ_self _)).base_le (Nat.le_succ _), (V5.out.upd hu9 (Nat.lt_succ_self _)).base_le (Nat.le_succ _), B5.out.trans (hu9.below (Nat.le_refl _))⟩
  · have HL9 := bx hl0
    clear hl0
    go_wp2_with fail
    refine (HEQ.out _ R5.out (HRD.out.below B5.out) HPB.out HB.out).mono ?_
    rintro e w6 ⟨rfl, rfl⟩
    rw [decide_eq_true HL9.out]
    clear HEQ
    go_wp2_with (first
      | ((with_reducible refine at_load 50 ?_); go_must (refine load_all 118 (.tmp 10) rfl rfl rfl C5.out Try.underlying118 rfl rep_is ?_))
      | ((with_reducible refine at_store (.tmp 2) (.tmp 50) ?_); go_must (refine store_all (cs := repCells c i k g (.slice A2 n2 c2) (.slice A3 ds.length c3)) 118 (.tmp 2) (.tmp 50) rfl rfl rfl rfl K5.out rep_is rfl (rep_one _ _ _ _ _ _ _ _ _ _) ?_; intro w9 hu9)))
    refine bodyPost_ret (results_ct (cs := repCells c i k g (.slice A2 n2 c2) (.slice A3 ds.length c3)) rfl _ _ w.heap.size 118 _ _ rfl rfl hu9.same Try.underlying118 rfl rep_is) rfl ?_
    exact ⟨_, _, _, rfl, (O5.out.upd hu9 (Nat.lt_succ_self _)).base_le (Nat.le_succ _), (V5.out.upd hu9 (Nat.lt_succ_self _)).base_le (Nat.le_succ _), B5.out.trans (hu9.below (Nat.le_refl _))⟩
end Go.Proofs.Ythnommoljikaiaa
