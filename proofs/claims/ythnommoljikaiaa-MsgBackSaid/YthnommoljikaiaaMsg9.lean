/- MsgLengths: the walk over the law. -/
import Derived.Test.YthnommoljikaiaaMsg8
set_option linter.unusedSimpArgs false
set_option linter.unusedVariables false
namespace Go.Proofs.Ythnommoljikaiaa
open Go.RowKit

/-- What a request, or a reply, is that the law is handed. -/
structure MsgA where
  c : Int
  i : Int
  k : Int
  nm : List Int
  g : Int
  A2 : Option Addr
  n2 : Nat
  cap2 : Nat
  flat : List Int
  A3 : Option Addr
  n3 : Nat
  cap3 : Nat
  ds : List Int
def MsgA.reqC (m : MsgA) : Array Value := reqCells m.c m.i m.k m.nm m.g (.slice m.A2 m.n2 m.cap2) (.slice m.A3 m.n3 m.cap3)
def MsgA.repC (m : MsgA) : Array Value := repCells m.c m.i m.k m.g (.slice m.A2 m.n2 m.cap2) (.slice m.A3 m.n3 m.cap3)
def MsgA.Full (m : MsgA) (w : World) : Prop := m.nm.length = 16 ∧ IsB m.nm ∧ RdB w m.A2 (16 * m.n2) m.flat ∧ IsB m.flat ∧ RdB w m.A3 m.n3 m.ds ∧ (m.A3 = none → m.cap3 = 0) ∧ IsB m.ds
def MsgA.putQ (m : MsgA) : List Int × Int := putM 1 1 6 true m.c m.k m.i m.g m.nm m.n2 m.flat m.n3 m.ds
def MsgA.putP (m : MsgA) : List Int × Int := putM 2 0 9 false m.c m.k m.i m.g zero16 m.n2 m.flat m.n3 m.ds
theorem MsgA.Full.below {m : MsgA} {w w' : World} (h : m.Full w) (hb : Below w.heap.size w w') : m.Full w' := ⟨h.1, h.2.1, h.2.2.1.below hb, h.2.2.2.1, h.2.2.2.2.1.below hb, h.2.2.2.2.2⟩
theorem MsgA.Full.putq {m : MsgA} {w : World} (h : m.Full w) : Calls Try.prog 53 #[.agg m.reqC] w (PutOut w m.putQ) := by
  have := putq_any m.c m.k m.i m.g m.nm m.A2 m.n2 m.cap2 m.flat m.A3 m.n3 m.cap3 m.ds w h.1 h.2.2.1 h.2.2.2.2.1 h.2.2.2.2.2.1 h.2.1 h.2.2.2.1 h.2.2.2.2.2.2 (.inr rfl)
  simp only [if_true] at this
  exact this
theorem MsgA.Full.putp {m : MsgA} {w : World} (h : m.Full w) : Calls Try.prog 56 #[.agg m.repC] w (PutOut w m.putP) := by
  have := putp_any m.c m.k m.i m.g zero16 m.A2 m.n2 m.cap2 m.flat m.A3 m.n3 m.cap3 m.ds w rfl h.2.2.1 h.2.2.2.2.1 h.2.2.2.2.2.1 zero16_isB h.2.2.2.1 h.2.2.2.2.2.2 (.inl rfl)
  simp only [Bool.false_eq_true, if_false] at this
  exact this
set_option maxRecDepth 100000 in
set_option maxHeartbeats 2000000 in
theorem lengths_any (q p : MsgA) (w : World) (hq : q.Full w) (hp : p.Full w) :
    Calls Try.prog 16 #[.agg q.reqC, .agg p.repC] w fun e w' => e = .returned (.bool true) ∧ Below w.heap.size w w' := by
  obtain ⟨w0, hw0⟩ : ∃ w0, w0 = (w.alloc (.cells q.reqC 116)).alloc (.cells p.repC 118) := ⟨_, rfl⟩
  have K0 : Bx (w0.heap[w.heap.size]? = some (.cells q.reqC 116 (0, 0))) := ⟨by rw [hw0]; exact heap_alloc2_old w _ _⟩
  have K1 : Bx (w0.heap[w.heap.size + 1]? = some (.cells p.repC 118 (0, 0))) := ⟨by rw [hw0]; exact heap_alloc2_new w _ _⟩
  have B0 : Bx (Below w.heap.size w w0) := ⟨by rw [hw0]; exact ((Below.refl _ _).alloc (Nat.le_refl _) _).alloc (by simp) _⟩
  have HF := bx (hq.below B0.out); have PF := bx (hp.below B0.out)
  have HL := putM_len (kind := 1) (lo := 1) (hi := 6) (named := true) (c := q.c) (k := q.k) (i := q.i) (g := q.g) hq.1 hq.2.2.1.1 hq.2.2.2.2.1.1
  have PL := putM_len (kind := 2) (lo := 0) (hi := 9) (named := false) (c := p.c) (k := p.k) (i := p.i) (g := p.g) (nm := zero16) rfl hp.2.2.1.1 hp.2.2.2.2.1.1
  have IQ : Bx ((Try.prog.info? 116).map (·.size) = some q.reqC.size) := ⟨req_is hq.1⟩
  have IP : Bx ((Try.prog.info? 118).map (·.size) = some p.repC.size) := ⟨rep_is⟩
  have gq := req_get q.c q.i q.k q.nm q.g (.slice q.A2 q.n2 q.cap2) (.slice q.A3 q.n3 q.cap3) hq.1
  have HC : Bx (∀ w', Below w0.heap.size w0 w' → w'.cell? ⟨w.heap.size, 20, none⟩ = some (.slice q.A2 q.n2 q.cap2) ∧ w'.cell? ⟨w.heap.size, 21, none⟩ = some (.slice q.A3 q.n3 q.cap3) ∧ w'.cell? ⟨w.heap.size + 1, 4, none⟩ = some (.slice p.A2 p.n2 p.cap2) ∧ w'.cell? ⟨w.heap.size + 1, 5, none⟩ = some (.slice p.A3 p.n3 p.cap3)) := ⟨fun w' hb => by
    have hk := (hb.block _ (blk_lt K0.out)).trans K0.out
    have hk1 := (hb.block _ (blk_lt K1.out)).trans K1.out
    exact ⟨blk_cell hk gq.2.1, blk_cell hk gq.2.2, blk_cell hk1 rfl, blk_cell hk1 rfl⟩⟩
  have HW := bx hw0
  clear hw0 hq hp gq
  change (q.putQ.2 = 2 ∧ q.putQ.1.length = 0) ∨ (q.putQ.2 = 0 ∧ q.putQ.1.length = 52 + 16 * q.n2 + q.n3 ∧ q.n2 ≤ 128 ∧ q.n3 ≤ 8192) at HL
  change (p.putP.2 = 2 ∧ p.putP.1.length = 0) ∨ (p.putP.2 = 0 ∧ p.putP.1.length = 36 + 16 * p.n2 + p.n3 ∧ p.n2 ≤ 128 ∧ p.n3 ≤ 8192) at PL
  have HQ := bx HF.out.putq; have HP : Bx (∀ w', Below w0.heap.size w0 w' → Calls Try.prog 56 #[.agg p.repC] w' (PutOut w' p.putP)) := ⟨fun w' hb => (PF.out.below hb).putp⟩
  have HOne := bx one20_any
  obtain ⟨q1, q2, q3, q4⟩ := HC.out w0 (Below.refl _ _)
  generalize q.putQ = pq at *
  generalize p.putP = pp at *
  obtain ⟨LQ, eq⟩ := pq
  obtain ⟨LP, ep⟩ := pp
  dsimp only at HL PL
  generalize q.reqC = CQ at *
  generalize p.repC = CP at *
  by_cases big : 12000 < q.n3 ∨ 12000 < p.n3
  · rcases Nat.lt_or_ge 12000 q.n3 with h | h
    · have h' : (12000 : Int) < q.n3 := by omega
      clear HL PL big
      go_enter Try.func16, Try.ntmps16
      go_upto_region 1 with fail
      rw [← HW.out]
      clear HW
      go_wp2_with fail
      go_ret
      exact ⟨rfl, B0.out⟩
    · have h2 : (12000 : Int) < p.n3 := by omega
      have h1 : ¬ (12000 : Int) < q.n3 := by omega
      clear HL PL big
      go_enter Try.func16, Try.ntmps16
      go_upto_region 1 with fail
      rw [← HW.out]
      clear HW
      go_wp2_with fail
      go_ret
      exact ⟨rfl, B0.out⟩
  · have h1 : ¬ (12000 : Int) < q.n3 := by omega
    have h2 : ¬ (12000 : Int) < p.n3 := by omega
    clear big
    obtain ⟨nq, hnq⟩ : ∃ nq, LQ.length = nq := ⟨_, rfl⟩
    obtain ⟨np, hnp⟩ : ∃ np, LP.length = np := ⟨_, rfl⟩
    rw [hnq] at HL; rw [hnp] at PL
    have HNQ := bx hnq; have HNP := bx hnp
    clear hnq hnp
    have HL2 : (eq = 2 ∧ nq = 0) ∨ (eq = 0 ∧ IntKind.i64.wrap (16 * (q.n2 : Int)) = 16 * q.n2 ∧ IntKind.i64.wrap (52 + 16 * (q.n2 : Int)) = 52 + 16 * q.n2 ∧ IntKind.i64.wrap (52 + 16 * (q.n2 : Int) + q.n3) = nq) := by
      rcases HL with h | ⟨h1, h2, h3, h4⟩
      · exact .inl h
      · exact .inr ⟨h1, IntWalk.i64_in _ (by omega), IntWalk.i64_in _ (by omega), by rw [IntWalk.i64_in _ (by omega)]; omega⟩
    have PL2 : (ep = 2 ∧ np = 0) ∨ (ep = 0 ∧ IntKind.i64.wrap (16 * (p.n2 : Int)) = 16 * p.n2 ∧ IntKind.i64.wrap (36 + 16 * (p.n2 : Int)) = 36 + 16 * p.n2 ∧ IntKind.i64.wrap (36 + 16 * (p.n2 : Int) + p.n3) = np) := by
      rcases PL with h | ⟨h1, h2, h3, h4⟩
      · exact .inl h
      · exact .inr ⟨h1, IntWalk.i64_in _ (by omega), IntWalk.i64_in _ (by omega), by rw [IntWalk.i64_in _ (by omega)]; omega⟩
    clear HL PL
    rcases HL2 with ⟨rfl, rfl⟩ | ⟨rfl, wq1, wq2, wq3⟩ <;> rcases PL2 with ⟨rfl, rfl⟩ | ⟨rfl, wp1, wp2, wp3⟩
    all_goals
      go_enter Try.func16, Try.ntmps16
      go_upto_region 1 with fail
      rw [← HW.out]
      clear HW
      go_wp2_with (first
        | ((with_reducible refine at_load 20 ?_); go_must (refine load_all 116 (.tmp 2) rfl rfl rfl K0.out Try.underlying116 rfl IQ.out ?_)))
      refine HQ.out.mono ?_
      rintro e w1 ⟨A5, c5, rfl, _, _, _, hb⟩
      dsimp only
      rw [HNQ.out]
      have B1 := bx hb
      have K2 := bx ((hb.block _ (blk_lt K1.out)).trans K1.out)
      clear hb
      go_wp2_with (first
        | ((with_reducible refine at_load 25 ?_); go_must (refine load_all 118 (.tmp 3) rfl rfl rfl K2.out Try.underlying118 rfl IP.out ?_)))
      refine (HP.out _ B1.out).mono ?_
      rintro e w2 ⟨A6, c6, rfl, _, _, _, hb⟩
      dsimp only
      rw [HNP.out]
      have B2 := bx (B1.out.trans (hb.mono B1.out.size))
      obtain ⟨r1, r2, r3, r4⟩ := HC.out w2 B2.out
      clear hb q1 q2 q3 q4
      go_wp2_with fail
      refine (HOne.out _).mono ?_
      rintro e w3 ⟨rfl, hb⟩
      have B3 := bx (B0.out.trans ((B2.out.trans (hb.mono B2.out.size)).mono B0.out.size))
      clear hb r1 r2 r3 r4
      go_wp2_with fail
      go_ret
      exact ⟨rfl, B3.out⟩
end Go.Proofs.Ythnommoljikaiaa
