/- MsgPuts: the walk over the law. -/
import Derived.Test.YthnommoljikaiaaMsg15
set_option linter.unusedSimpArgs false
set_option linter.unusedVariables false
namespace Go.Proofs.Ythnommoljikaiaa
open Go.RowKit

def MsgA.refQ (m : MsgA) (v : Value) : Array Value := rqCells m.c m.i m.k (strOfNums m.nm) m.g v (strOfNums m.ds)
def MsgA.refP (m : MsgA) (v : Value) : Array Value := rpCells m.c m.i m.k m.g v (strOfNums m.ds)
theorem may_min (c k lo hi : Int) (nn dn : Nat) : mayB c k lo hi (min nn 300) dn = mayB c k lo hi nn dn := by
  have : (min nn 300 ≤ 128) = (nn ≤ 128) := by rw [eq_iff_iff]; omega
  simp only [mayB, this]
theorem MsgA.Full.req {m : MsgA} {w : World} (h : m.Full w) : Calls Try.prog 55 #[.agg m.reqC] w (ReqO w m.refQ m.flat (min m.n2 300)) :=
  request_any m.c m.i m.k m.nm m.g m.A2 m.n2 m.cap2 m.flat m.A3 m.n3 m.cap3 m.ds w h.1 h.2.2.1 h.2.2.2.2.1
theorem MsgA.Full.rep {m : MsgA} {w : World} (h : m.Full w) : Calls Try.prog 58 #[.agg m.repC] w (ReqO w m.refP m.flat (min m.n2 300)) :=
  reply_any m.c m.i m.k m.nm m.g m.A2 m.n2 m.cap2 m.flat m.A3 m.n3 m.cap3 m.ds w h.1 h.2.2.1 h.2.2.2.2.1
theorem MsgA.Full.refq {m : MsgA} {w0 : World} (h : m.Full w0) (hr : m.Rng) (A : Option Addr) (cap : Nat) (w : World) (ht : RdT w A (strsOf m.flat (min m.n2 300))) :
    Calls Try.prog 54 #[.agg (m.refQ (.slice A (min m.n2 300) cap))] w fun e w' => e = .returned (.tuple #[.string (strOfNums m.putQ.1), .int .i64 m.putQ.2]) ∧ Below w.heap.size w w' := by
  have h3 : m.ds.length = m.n3 := h.2.2.2.2.1.1
  cases hm : mayB m.c m.k 1 6 m.n2 m.n3 with
  | false =>
    have e : m.putQ = ([], 2) := by rw [MsgA.putQ, putM, if_neg (by rw [hm]; decide)]
    rw [e]
    exact rputq_bad m.c m.i m.k (strOfNums m.nm) (strOfNums m.ds) m.g A (min m.n2 300) cap m.n3 w (by rw [strLen, h3]) (by rw [may_min]; exact hm)
  | true =>
    have hn : min m.n2 300 = m.n2 := by have := mayB_true hm; omega
    have e : m.putQ = (frameOf 1 (bodyM true m.c m.k m.i m.g m.nm m.n2 m.flat m.n3 m.ds), 0) := by rw [MsgA.putQ, putM, if_pos hm]
    rw [e]
    rw [hn] at ht ⊢
    have := rputq_any m.c m.i m.k m.nm (strOfNums m.nm) (strOfNums m.ds) m.g A m.n2 cap m.flat m.ds w h.1 rfl rfl ht h.2.2.1.1 h.2.1 h.2.2.2.1 h.2.2.2.2.2.2 hr.1 hr.2.1 (by rw [h3]; exact hm)
    rw [h3] at this
    exact this
theorem MsgA.Full.refp {m : MsgA} {w0 : World} (h : m.Full w0) (hr : m.Rng) (A : Option Addr) (cap : Nat) (w : World) (ht : RdT w A (strsOf m.flat (min m.n2 300))) :
    Calls Try.prog 57 #[.agg (m.refP (.slice A (min m.n2 300) cap))] w fun e w' => e = .returned (.tuple #[.string (strOfNums m.putP.1), .int .i64 m.putP.2]) ∧ Below w.heap.size w w' := by
  have h3 : m.ds.length = m.n3 := h.2.2.2.2.1.1
  cases hm : mayB m.c m.k 0 9 m.n2 m.n3 with
  | false =>
    have e : m.putP = ([], 2) := by rw [MsgA.putP, putM, if_neg (by rw [hm]; decide)]
    rw [e]
    exact rputp_bad m.c m.i m.k (strOfNums m.nm) (strOfNums m.ds) m.g A (min m.n2 300) cap m.n3 w (by rw [strLen, h3]) (by rw [may_min]; exact hm)
  | true =>
    have hn : min m.n2 300 = m.n2 := by have := mayB_true hm; omega
    have e : m.putP = (frameOf 2 (bodyM false m.c m.k m.i m.g zero16 m.n2 m.flat m.n3 m.ds), 0) := by rw [MsgA.putP, putM, if_pos hm]
    rw [e]
    rw [hn] at ht ⊢
    have := rputp_any m.c m.i m.k zero16 (strOfNums zero16) (strOfNums m.ds) m.g A m.n2 cap m.flat m.ds w rfl rfl rfl ht h.2.2.1.1 zero16_isB h.2.2.2.1 h.2.2.2.2.2.2 hr.1 hr.2.1 (by rw [h3]; exact hm)
    rw [h3] at this
    exact this
set_option maxRecDepth 100000 in
set_option maxHeartbeats 2000000 in
theorem puts20_any (q p : MsgA) (code : Int) (w : World) (hq : q.Full w) (hqr : q.Rng) (hp : p.Full w) (hpr : p.Rng) :
    Calls Try.prog 15 #[.agg q.reqC, .agg p.repC, .int .i64 code] w fun e w' => e = .returned (.bool true) ∧ Below w.heap.size w w' := by
  obtain ⟨w0, hw0⟩ : ∃ w0, w0 = (w.alloc (.cells q.reqC 116)).alloc (.cells p.repC 118) := ⟨_, rfl⟩
  have K0 : Bx (w0.heap[w.heap.size]? = some (.cells q.reqC 116 (0, 0))) := ⟨by rw [hw0]; exact heap_alloc2_old w _ _⟩
  have K1 : Bx (w0.heap[w.heap.size + 1]? = some (.cells p.repC 118 (0, 0))) := ⟨by rw [hw0]; exact heap_alloc2_new w _ _⟩
  have B0 : Bx (Below w.heap.size w w0) := ⟨by rw [hw0]; exact ((Below.refl _ _).alloc (Nat.le_refl _) _).alloc (by simp) _⟩
  have HF := bx (hq.below B0.out); have PF := bx (hp.below B0.out)
  have IQ : Bx ((Try.prog.info? 116).map (·.size) = some q.reqC.size) := ⟨req_is hq.1⟩
  have IP : Bx ((Try.prog.info? 118).map (·.size) = some p.repC.size) := ⟨rep_is⟩
  have gq := req_get q.c q.i q.k q.nm q.g (.slice q.A2 q.n2 q.cap2) (.slice q.A3 q.n3 q.cap3) hq.1
  have HC : Bx (w0.cell? ⟨w.heap.size, 21, none⟩ = some (.slice q.A3 q.n3 q.cap3) ∧ w0.cell? ⟨w.heap.size + 1, 5, none⟩ = some (.slice p.A3 p.n3 p.cap3)) := ⟨⟨blk_cell K0.out gq.2.2, blk_cell K1.out rfl⟩⟩
  have HW := bx hw0
  clear hw0 hq hp gq
  have HK0 : Bx (∀ w', Below w0.heap.size w0 w' → w'.heap[w.heap.size]? = some (.cells q.reqC 116 (0, 0))) := ⟨fun w' hb => (hb.block _ (blk_lt K0.out)).trans K0.out⟩
  have HK1 : Bx (∀ w', Below w0.heap.size w0 w' → w'.heap[w.heap.size + 1]? = some (.cells p.repC 118 (0, 0))) := ⟨fun w' hb => (hb.block _ (blk_lt K1.out)).trans K1.out⟩
  have HQ := bx HF.out.putq; have HP : Bx (∀ w', Below w0.heap.size w0 w' → Calls Try.prog 56 #[.agg p.repC] w' (PutOut w' p.putP)) := ⟨fun w' hb => (PF.out.below hb).putp⟩
  have HRQ : Bx (∀ w', Below w0.heap.size w0 w' → Calls Try.prog 55 #[.agg q.reqC] w' (ReqO w' q.refQ q.flat (min q.n2 300))) := ⟨fun w' hb => (HF.out.below hb).req⟩
  have HRP : Bx (∀ w', Below w0.heap.size w0 w' → Calls Try.prog 58 #[.agg p.repC] w' (ReqO w' p.refP p.flat (min p.n2 300))) := ⟨fun w' hb => (PF.out.below hb).rep⟩
  have HXQ := bx (HF.out.refq hqr); have HXP := bx (PF.out.refp hpr)
  have HOne := bx one20_any; have HT := bx (text_any code); have HRT := bx (rtext_any code)
  obtain ⟨q1, q2⟩ := HC.out
  clear hqr hpr
  generalize q.putQ = pq at *
  generalize p.putP = pp at *
  generalize textOf code = tx at *
  obtain ⟨LQ, eq⟩ := pq
  obtain ⟨LP, ep⟩ := pp
  generalize q.reqC = CQ at *
  generalize p.repC = CP at *
  by_cases big : 12000 < q.n3 ∨ 12000 < p.n3
  · rcases Nat.lt_or_ge 12000 q.n3 with h | h
    · have h' : (12000 : Int) < q.n3 := by omega
      clear big
      go_enter Try.func15, Try.ntmps15
      go_upto_region 1 with fail
      rw [← HW.out]
      clear HW
      go_wp2_with fail
      go_ret
      exact ⟨rfl, B0.out⟩
    · have h2 : (12000 : Int) < p.n3 := by omega
      have h1 : ¬ (12000 : Int) < q.n3 := by omega
      clear big
      go_enter Try.func15, Try.ntmps15
      go_upto_region 1 with fail
      rw [← HW.out]
      clear HW
      go_wp2_with fail
      go_ret
      exact ⟨rfl, B0.out⟩
  · have h1 : ¬ (12000 : Int) < q.n3 := by omega
    have h2 : ¬ (12000 : Int) < p.n3 := by omega
    clear big HF PF
    go_enter Try.func15, Try.ntmps15
    go_upto_region 1 with fail
    rw [← HW.out]
    clear HW
    go_wp2_with (first
      | ((with_reducible refine at_load 26 ?_); go_must (refine load_all 116 (.tmp 3) rfl rfl rfl K0.out Try.underlying116 rfl IQ.out ?_)))
    refine HQ.out.mono ?_
    rintro e w1 ⟨A5, c5, rfl, hr5, _, _, hb⟩
    dsimp only at hr5 ⊢
    have B1 := bx hb; have R5 := bx hr5; have K2 := bx (HK0.out _ hb)
    clear hb hr5 q1 q2
    go_wp2_with (first
      | ((with_reducible refine at_load 31 ?_); go_must (refine load_all 116 (.tmp 3) rfl rfl rfl K2.out Try.underlying116 rfl IQ.out ?_)))
    refine (HRQ.out _ B1.out).mono ?_
    rintro e w2 ⟨A6, c6, rfl, hr6, hb⟩
    have R5' := bx (R5.out.below hb); have R6 := bx hr6; have B2 := bx (B1.out.trans (hb.mono B1.out.size))
    clear hb hr6 R5
    go_wp2_with fail
    refine (HXQ.out A6 c6 _ R6.out).mono ?_
    rintro e w3 ⟨rfl, hb⟩
    dsimp only
    have R5 := bx (R5'.out.below hb); have B3 := bx (B2.out.trans (hb.mono B2.out.size))
    have K3 := bx (HK1.out _ B3.out)
    clear hb R6 R5'
    go_wp2_with (first
      | ((with_reducible refine at_load 37 ?_); go_must (refine load_all 118 (.tmp 4) rfl rfl rfl K3.out Try.underlying118 rfl IP.out ?_)))
    refine (HP.out _ B3.out).mono ?_
    rintro e w4 ⟨A7, c7, rfl, hr7, _, _, hb⟩
    dsimp only at hr7 ⊢
    have R5' := bx (R5.out.below hb); have R7 := bx hr7; have B4 := bx (B3.out.trans (hb.mono B3.out.size))
    have K4 := bx (HK1.out _ B4.out)
    clear hb hr7 R5
    go_wp2_with (first
      | ((with_reducible refine at_load 42 ?_); go_must (refine load_all 118 (.tmp 4) rfl rfl rfl K4.out Try.underlying118 rfl IP.out ?_)))
    refine (HRP.out _ B4.out).mono ?_
    rintro e w5 ⟨A8, c8, rfl, hr8, hb⟩
    have R5 := bx (R5'.out.below hb); have R7' := bx (R7.out.below hb); have R8 := bx hr8; have B5 := bx (B4.out.trans (hb.mono B4.out.size))
    clear hb hr8 R5' R7
    go_wp2_with fail
    refine (HXP.out A8 c8 _ R8.out).mono ?_
    rintro e w6 ⟨rfl, hb⟩
    dsimp only
    have cv1 := str_of (R5.out.below hb) c5; have cv2 := str_of (R7'.out.below hb) c7; have B6 := bx (B5.out.trans (hb.mono B5.out.size))
    clear hb R8 R5 R7'
    generalize strOfNums LQ = sq at *
    generalize strOfNums LP = sp at *
    have e1 : (sq.toList == sq.toList) = true := by simp
    have e2 : (sp.toList == sp.toList) = true := by simp
    have e3 : (tx.toList == tx.toList) = true := by simp
    go_wp2_with fail
    refine (HT.out _).mono ?_
    rintro e w7 ⟨rfl, hb⟩
    have B7 := bx (B6.out.trans (hb.mono B6.out.size))
    clear hb cv1 cv2
    go_wp2_with fail
    refine (HRT.out _).mono ?_
    rintro e w8 ⟨rfl, hb⟩
    have B8 := bx (B7.out.trans (hb.mono B7.out.size))
    clear hb
    go_wp2_with fail
    refine (HOne.out _).mono ?_
    rintro e w9 ⟨rfl, hb⟩
    have B9 := bx (B0.out.trans ((B8.out.trans (hb.mono B8.out.size)).mono B0.out.size))
    clear hb
    go_wp2_with fail
    go_ret
    exact ⟨rfl, B9.out⟩
end Go.Proofs.Ythnommoljikaiaa
