/- A region that draws: operations that are quiet in every world of a class that is closed under what only makes new blocks; one alloc that comes up wherever; then a last stretch. -/
import Derived.Test.YthnommoljikaiaaDoorReg2
set_option linter.unusedVariables false
namespace Go.Proofs.YthnommoljikaiaaDoor
open Go.RowKit

section
variable {P : Program} {ops : Array Oper} {md : Region.Mode} {C : World → Prop}
/-- What only makes new blocks. -/
abbrev Top (w w' : World) : Prop := Below w.heap.size w w'
/-- One value in every world of the class; old blocks stay. -/
def quietR (P : Program) (C : World → Prop) (o : Oper) (a : Act) (next : Act → Prop) : Prop := ∃ v, (∀ w, C w → o.quietAt P a (Top w) w v) ∧ next (a.put o.dst v)
def wpQuietR (P : Program) (ops : Array Oper) (C : World → Prop) (Q : Act → Prop) : List Oper → Act → Prop
  | [], a => Q a
  | o :: rest, a => if Region.wanted o (yielded ops a.tmps) then quietR P C o a (wpQuietR P ops C Q rest) else wpQuietR P ops C Q rest (a.put o.dst undef)
theorem quietR_nil {Q : Act → Prop} {a : Act} (h : Q a) : wpQuietR P ops C Q [] a := h
theorem quietR_take {Q : Act → Prop} {a : Act} {o : Oper} {rest : List Oper} {v : Value} (d : Nat) (hd : o.dst = some d) (hw : Region.wanted o (yielded ops a.tmps) = true)
    (h : ∀ w', C w' → o.quietAt P a (Top w') w' v) (hr : wpQuietR P ops C Q rest { tmps := a.tmps.setIfInBounds d v, defers := a.defers }) : wpQuietR P ops C Q (o :: rest) a := by
  unfold wpQuietR
  rw [if_pos hw]
  exact ⟨v, h, by simpa [Act.put, hd] using hr⟩
theorem quietR_skip {Q : Act → Prop} {a : Act} {o : Oper} {rest : List Oper} (d : Nat) (hd : o.dst = some d) (hw : Region.wanted o (yielded ops a.tmps) = false)
    (hr : wpQuietR P ops C Q rest { tmps := a.tmps.setIfInBounds d undef, defers := a.defers }) : wpQuietR P ops C Q (o :: rest) a := by
  unfold wpQuietR
  rw [if_neg (by simp [hw])]
  simpa [Act.put, hd] using hr
def rOp (P : Program) (ops : Array Oper) (C : World → Prop) (i : Nat) (K : Act → Prop) (a : Act) : Prop :=
  match ops[i]? with
  | none => K a
  | some o => if Region.wanted o (yielded ops a.tmps) then quietR P C o a K else K (a.put o.dst undef)
theorem rOp_mono {i : Nat} {a : Act} {K K' : Act → Prop} (h : ∀ a, K a → K' a) (hh : rOp P ops C i K a) : rOp P ops C i K' a := by
  unfold rOp at *
  split
  · exact h _ (by simpa [*] using hh)
  · rename_i o ho
    simp only [ho] at hh
    split
    · rename_i hw; simp only [hw, if_true] at hh; obtain ⟨v, h1, h2⟩ := hh; exact ⟨v, h1, h _ h2⟩
    · rename_i hw; simp only [hw] at hh; exact h _ hh
theorem wp_of_quietR {o : Oper} {a : Act} {K : Act → Prop} {K' : Act → World → Prop} {Q' : Exit → Act → World → Prop} {w : World} (hw : C w) (h : ∀ a w', Top w w' → K a → K' a w') (hh : quietR P C o a K) : o.wp P a w K' Q' := by
  obtain ⟨v, h1, h2⟩ := hh
  have h3 := h1 w hw
  unfold Oper.quietAt at h3
  unfold Oper.wp
  generalize (execOp a.eval o).run P w = r at *
  cases r with
  | ok n w' =>
    cases n <;> simp only [Oper.quietUpon] at h3 <;> simp only [Oper.upon]
    case value u =>
      obtain ⟨e1, e2⟩ := h3
      rw [e1, e2]
      exact h _ _ (Below.refl _ _) h2
    case skip =>
      obtain ⟨e1, e2⟩ := h3
      rw [e1, ← e2]
      exact h _ _ (Below.refl _ _) h2
    case enter f args =>
      obtain ⟨e1, hc⟩ := h3
      rw [e1]
      exact hc.mono fun e w'' ⟨he, hw''⟩ => by subst he; exact h _ _ hw'' h2
  | halt x w' => simp only [Oper.quietUpon] at h3
theorem wpOp_of_rOp {i : Nat} {a : Act} {K : Act → Prop} {K' : Act → World → Prop} {Q' : Exit → Act → World → Prop} {w : World} (hC : C w) (h : ∀ a w', Top w w' → K a → K' a w') (hh : rOp P ops C i K a) : wpOp P ops Q' i K' a w := by
  unfold rOp at hh
  unfold wpOp
  split
  · rename_i ho; simp only [ho] at hh; exact h _ _ (Below.refl _ _) hh
  · rename_i o ho
    simp only [ho] at hh
    split
    · rename_i hw; simp only [hw, if_true] at hh; exact .inl (wp_of_quietR hC h hh)
    · rename_i hw; simp only [hw] at hh; exact h _ _ (Below.refl _ _) hh
def YieldsR (P : Program) (ops : Array Oper) (C : World → Prop) (o : Oper) (v : Value) (a : Act) : Prop :=
  (Region.wanted o (yielded ops a.tmps) = true ∧ ∀ w, C w → o.quietAt P a (Top w) w v) ∨
  (Region.wanted o (yielded ops a.tmps) = false ∧ v = undef)
theorem YieldsR.rOp {i : Nat} {o : Oper} {v : Value} {a : Act} (hi : ops[i]? = some o) (hy : YieldsR P ops C o v a) {K : Act → Prop} (h : K (a.put o.dst v)) : rOp P ops C i K a := by
  unfold Go.Proofs.YthnommoljikaiaaDoor.rOp
  simp only [hi]
  rcases hy with ⟨hw, hv⟩ | ⟨hw, rfl⟩
  · simp only [hw, if_true]; exact ⟨v, hv, h⟩
  · simp only [hw, Bool.false_eq_true, if_false]; exact h
theorem YieldsR.of_same {o : Oper} {v : Value} {a a' : Act} (hy : YieldsR P ops C o v a) (he : execOp a'.eval o = execOp a.eval o)
    (hw : Region.wanted o (yielded ops a'.tmps) = Region.wanted o (yielded ops a.tmps)) : YieldsR P ops C o v a' := by
  unfold YieldsR Oper.quietAt at *
  rw [he, hw]
  exact hy
theorem yieldsR_of_rOp {i : Nat} {o : Oper} {a : Act} {K : Act → Prop} (hi : ops[i]? = some o) (h : rOp P ops C i K a) : ∃ v, YieldsR P ops C o v a ∧ K (a.put o.dst v) := by
  unfold rOp at h
  simp only [hi] at h
  by_cases hw : Region.wanted o (yielded ops a.tmps) = true
  · simp only [hw, if_true] at h
    obtain ⟨v, h1, h2⟩ := h
    exact ⟨v, .inl ⟨hw, h1⟩, h2⟩
  · simp only [hw] at h
    exact ⟨undef, .inr ⟨by simpa using hw, rfl⟩, h⟩
theorem rOp_put {j : Nat} {oi oj : Oper} {v : Value} (hj : ops[j]? = some oj) (hap : oi.apart ops oj = true)
    (hsi : ∀ cs b, oi.op ≠ .select cs b) (hsj : ∀ cs b, oj.op ≠ .select cs b) {K : Act → Prop} {a : Act}
    (hy : YieldsR P ops C oi v a) (h : rOp P ops C j K (a.put oi.dst v)) :
    rOp P ops C j (fun a' => YieldsR P ops C oi v a' ∧ K (a'.put oi.dst v)) a := by
  obtain ⟨h1, h2, h3⟩ := Oper.apart_spec hap
  have keep : ∀ (a : Act), YieldsR P ops C oi v a → ∀ u, YieldsR P ops C oi v (a.put oj.dst u) := fun a hy u =>
    hy.of_same (execOp_put oi hsi a oj.dst u h3) (wanted_put oi a oj.dst u h3)
  unfold rOp at *
  simp only [hj] at *
  rw [wanted_put oj a oi.dst v h1] at h
  split
  · rename_i hw
    simp only [hw, if_true] at h
    obtain ⟨u, hu, hn⟩ := h
    refine ⟨u, fun w hw' => ?_, keep a hy u, by rw [← Act.put_comm a v u h2]; exact hn⟩
    have := hu w hw'
    unfold Oper.quietAt at *
    rwa [execOp_put oj hsj a oi.dst v h1] at this
  · rename_i hw
    simp only [hw] at h
    exact ⟨keep a hy _, by rw [← Act.put_comm a v undef h2]; exact h⟩
/-- A step of an operation that is apart from another one's slot, which holds whatever. -/
theorem rOp_slot {j : Nat} {ok oj : Oper} {x : Value} (hj : ops[j]? = some oj) (hap : ok.apart ops oj = true) (hsj : ∀ cs b, oj.op ≠ .select cs b) {K : Act → Prop} {a : Act}
    (h : rOp P ops C j K a) : rOp P ops C j (fun a' => ∃ a0, a' = a0.put ok.dst x ∧ K a0) (a.put ok.dst x) := by
  obtain ⟨h1, h2, h3⟩ := Oper.apart_spec hap
  unfold rOp at *
  simp only [hj] at *
  rw [wanted_put oj a ok.dst x h1]
  split
  · rename_i hw
    simp only [hw, if_true] at h
    obtain ⟨u, hu, hn⟩ := h
    refine ⟨u, fun w hw' => ?_, _, Act.put_comm a x u h2, hn⟩
    have := hu w hw'
    unfold Oper.quietAt at *
    rwa [execOp_put oj hsj a ok.dst x h1]
  · rename_i hw
    simp only [hw] at h
    exact ⟨_, Act.put_comm a x undef h2, h⟩
/-- Only operations ahead of n come up, each quiet in C, until L holds. -/
def HeadsR (P : Program) (md : Region.Mode) (ops : Array Oper) (C : World → Prop) (n : Nat) (L : Array Bool → Act → Prop) : Nat → Array Bool → Act → Prop
  | 0, seen, a => L seen a
  | f + 1, seen, a => Region.ready md ops seen ≠ [] ∧ ∀ i ∈ Region.ready md ops seen, i < n ∧ rOp P ops C i (HeadsR P md ops C n L f (seen.setIfInBounds i true)) a
/-- Nothing behind the sink s (but k) comes up ahead of it. -/
structure InvK (md : Region.Mode) (ops : Array Oper) (s k : Nat) (seen : Array Bool) : Prop where
  size : seen.size = ops.size
  closed : ∀ j oj, ops[j]? = some oj → seen.getD j false = true → ∀ e ∈ oj.after, Region.binds md e = true → seen.getD e.on false = true
  tail : ∀ t, s < t → t ≠ k → t < ops.size → seen.getD t true = false
theorem InvK.set {s k i : Nat} {seen : Array Bool} (inv : InvK md ops s k seen) (hi : i ∈ Region.ready md ops seen) (hin : i ≤ s ∨ i = k) : InvK md ops s k (seen.setIfInBounds i true) := by
  obtain ⟨_, oi, hoi, hall⟩ := mem_ready.1 hi
  refine ⟨by simp [inv.size], fun j oj hj hl e he hb => ?_, fun t ht htk ht' => by rw [getD_set_ne true (by omega)]; exact inv.tail t ht htk ht'⟩
  by_cases hij : i = j
  · subst hij
    have : oj = oi := Option.some.inj (hj.symm.trans hoi)
    subst this
    exact getD_set_true (hall e he hb)
  · rw [getD_set_ne false hij] at hl
    exact getD_set_true (inv.closed j oj hj hl e he hb)
def lateB (md : Region.Mode) (ops : Array Oper) (s k : Nat) : Bool :=
  (List.range ops.size).all fun t => decide (t ≤ s) || (decide (t = k) || (List.range t).any fun j => decide (s ≤ j) && (!decide (j = k) && Region.waitsFor md ops t j))
theorem waits_unseen {t j : Nat} {seen : Array Bool} (h : Region.waitsFor md ops t j = true) (hun : seen.getD j false = false) : t ∉ Region.ready md ops seen := by
  intro hr
  obtain ⟨ot, hot, e, he, hb, hon⟩ := Region.waitsFor_spec h
  obtain ⟨_, ot', hot', hall⟩ := mem_ready.1 hr
  have : ot' = ot := Option.some.inj (hot'.symm.trans hot)
  subst this
  have := hall e he hb
  rw [hon, hun] at this
  cases this
theorem late_waits {s k : Nat} {seen : Array Bool} (hs : Region.sinkB md ops s = true) (hl : lateB md ops s k = true) (inv : InvK md ops s k seen) (hss : s < ops.size) :
    ∀ (d i : Nat), s - i = d → i ≤ s → seen.getD i true = false → ∀ t, s < t → t ≠ k → t ∉ Region.ready md ops seen := by
  intro d
  induction d using Nat.strongRecOn with
  | _ d ih =>
    intro i hd hi hun t ht htk
    by_cases his : i = s
    · subst his
      intro hr
      obtain ⟨_, ot, hot, _⟩ := mem_ready.1 hr
      have htlt : t < ops.size := (Array.getElem?_eq_some_iff.1 hot).1
      have h1 := List.all_eq_true.1 hl t (List.mem_range.2 htlt)
      simp only [Bool.or_eq_true, decide_eq_true_eq] at h1
      rcases h1 with h1 | h1 | h1
      · omega
      · exact htk h1
      · obtain ⟨j, hj, hj2⟩ := List.any_eq_true.1 h1
        have hjt := List.mem_range.1 hj
        simp only [Bool.and_eq_true, decide_eq_true_eq, Bool.not_eq_true', decide_eq_false_iff_not] at hj2
        refine waits_unseen hj2.2.2 ?_ hr
        by_cases hji : j = i
        · subst hji; exact getD_both hun
        · exact getD_both (inv.tail j (by omega) hj2.2.1 (by omega))
    · have h1 := List.all_eq_true.1 hs i (List.mem_range.2 (by omega))
      obtain ⟨j, hj, hj2⟩ := List.any_eq_true.1 h1
      simp only [Bool.and_eq_true, decide_eq_true_eq] at hj2
      have hjle : j ≤ s := by have := List.mem_range.1 hj; omega
      obtain ⟨oj, hoj, e, he, hb, hon⟩ := Region.waitsFor_spec hj2.2
      have hjun : seen.getD j false = false := by
        cases hl' : seen.getD j false with
        | false => rfl
        | true =>
          have h2 := inv.closed j oj hoj hl' e he hb
          rw [hon, getD_both hun] at h2
          cases h2
      exact ih (s - j) (by omega) j rfl hjle (getD_in (by rw [inv.size]; omega) hjun) t ht htk
theorem headsR_first {s k i : Nat} {oi : Oper} {v : Value} {L : Array Bool → Act → Prop} (hi : ops[i]? = some oi) (hsel : Region.noSelect ops = true) (hs : Region.sinkB md ops s = true) (hc : lateB md ops s k = true) (hn : s < ops.size) (hin : i ≤ s)
    (hL : ∀ seen a, L seen a → ∀ j ∈ Region.ready md ops seen, s < j) :
    ∀ (f : Nat) (seen : Array Bool) (a : Act), InvK md ops s k seen → seen.getD k true = true →
      (∀ j oj, ops[j]? = some oj → j ≠ i → seen.getD j true = false → (∀ e ∈ oj.after, Region.binds md e = true → e.on ≠ i) → oi.apart ops oj = true) →
      i ∈ Region.ready md ops seen → YieldsR P ops C oi v a → HeadsR P md ops C (s + 1) L f (seen.setIfInBounds i true) (a.put oi.dst v) → HeadsR P md ops C (s + 1) L (f + 1) seen a := by
  have sel := Region.noSelect_spec hsel
  have below : ∀ (seen : Array Bool), InvK md ops s k seen → seen.getD k true = true → i ∈ Region.ready md ops seen → ∀ j ∈ Region.ready md ops seen, j < s + 1 := by
    intro seen inv hk hr j hj
    have hun := (mem_ready.1 hr).1
    have hjk : j ≠ k := fun e => by have := (mem_ready.1 hj).1; rw [e, hk] at this; cases this
    exact Nat.lt_of_not_le fun h => late_waits hs hc inv hn _ i rfl hin hun j (by omega) hjk hj
  intro f
  induction f with
  | zero =>
    intro seen a inv hk _ hr hy H
    refine ⟨fun h => (by rw [h] at hr; cases hr), fun j hj => ?_⟩
    have hjn := below seen inv hk hr j hj
    by_cases e : j = i
    · subst e; exact ⟨hjn, hy.rOp hi H⟩
    · have := hL _ _ H j (ready_mono hj e); omega
  | succ f ih =>
    intro seen a inv hk hfree hr hy H
    refine ⟨fun h => (by rw [h] at hr; cases hr), fun j hj => ?_⟩
    have hjn := below seen inv hk hr j hj
    refine ⟨hjn, ?_⟩
    by_cases e : j = i
    · subst e; exact hy.rOp hi H
    · obtain ⟨hjun, oj, hoj, hall⟩ := mem_ready.1 hj
      have hun := (mem_ready.1 hr).1
      have hjk : j ≠ k := fun e => by rw [e, hk] at hjun; cases hjun
      have hnot : ∀ e ∈ oj.after, Region.binds md e = true → e.on ≠ i := fun e he hb heq => by
        have := hall e he hb
        rw [heq, getD_both hun] at this
        cases this
      refine rOp_mono (fun a' h3 => ih _ a' (inv.set hj (.inl (by omega))) (by rw [getD_set_ne true hjk]; exact hk) (fun k' ok hk' hki hku hno => hfree k' ok hk' hki ?_ hno) (ready_mono hr (Ne.symm e)) h3.1 ?_)
        (rOp_put hoj (hfree j oj hoj e hjun hnot) (fun cs b => sel i oi cs b hi) (fun cs b => sel j oj cs b hoj) hy (H.2 j (ready_mono hj e)).2)
      · by_cases hjk' : j = k'
        · subst hjk'; exact hjun
        · rwa [getD_set_ne true hjk'] at hku
      · rw [Array.setIfInBounds_comm _ _ e]
        exact h3.2
/-- The late operations (their values lean on no world), from j on; then the last stretch from n on. -/
def lexL (md : Region.Mode) (ops : Array Oper) (n g k : Nat) : Nat → Nat → Array Bool → Bool
  | 0, _, seen => (Region.ready md ops seen == [k]) && Region.seqB md ops g n (seen.setIfInBounds k true)
  | f + 1, j, seen => (Region.ready md ops seen).contains j && (Region.free md ops seen j && ((Region.ready md ops (seen.setIfInBounds k true)).contains j && (Region.free md ops (seen.setIfInBounds k true) j && lexL md ops n g k f (j + 1) (seen.setIfInBounds j true))))
/-- The quiet operations in their order, from j on; then the late ones. -/
def lexA (md : Region.Mode) (ops : Array Oper) (n g k late : Nat) : Nat → Nat → Array Bool → Bool
  | 0, j, seen => ((Region.ready md ops (seen.setIfInBounds k true)).all fun i => decide (j ≤ i)) && lexL md ops n g k late j seen
  | f + 1, j, seen => (Region.ready md ops (seen.setIfInBounds k true)).contains j && Region.free md ops (seen.setIfInBounds k true) j && lexA md ops n g k late f (j + 1) (seen.setIfInBounds j true)
def wpPure (P : Program) (ops : Array Oper) (K : Act → Prop) : List Oper → Act → Prop
  | [], a => K a
  | o :: rest, a => ∃ v, Yields P ops o v a ∧ wpPure P ops K rest (a.put o.dst v)
theorem set_inj {seen seen0 : Array Bool} {k : Nat} (h : seen.setIfInBounds k true = seen0.setIfInBounds k true) (h1 : seen.getD k true = false) (h0 : seen0.getD k true = false) : seen = seen0 := by
  have hz : seen.size = seen0.size := by have := congrArg Array.size h; simpa using this
  apply Array.ext_getElem?
  intro j
  by_cases e : k = j
  · subst e
    have k1 : k < seen.size := by
      rcases Nat.lt_or_ge k seen.size with h' | h'
      · exact h'
      · simp [Array.getElem?_eq_none h'] at h1
    have k0 : k < seen0.size := by omega
    simp [k1] at h1
    simp [k0] at h0
    simp [k1, k0, h1, h0]
  · have := congrArg (fun x => x[j]?) h
    simpa [Array.getElem?_setIfInBounds_ne e] using this
theorem getD_self {seen : Array Bool} {k : Nat} : (seen.setIfInBounds k true).getD k true = true := by
  simp only [Array.getD_eq_getD_getElem?, Array.getElem?_setIfInBounds]
  split
  · split <;> simp_all
  · simp_all
theorem headsR_lex {s k m late n g : Nat} {K : Act → Prop} (hsel : Region.noSelect ops = true) (hs : Region.sinkB md ops s = true) (hc : lateB md ops s k = true) (hn : s < ops.size) (hsk : s < k) (hm : m = s + 1) :
    ∀ (l : List Oper) (j : Nat) (seen : Array Bool) (a : Act), (∀ i, i < l.length → l[i]? = ops[j + i]?) → j + l.length = m → InvK md ops s k (seen.setIfInBounds k true) → seen.getD k true = false →
    lexA md ops n g k late l.length j seen = true → wpQuietR P ops C K l a →
    HeadsR P md ops C (s + 1) (fun seen' a' => (∃ seen0, seen0.getD k true = false ∧ seen' = seen0.setIfInBounds k true ∧ lexL md ops n g k late m seen0 = true ∧ K a') ∧ ∀ i ∈ Region.ready md ops seen', m ≤ i) l.length (seen.setIfInBounds k true) a := by
  intro l
  induction l with
  | nil =>
    intro j seen a _ hj inv hk hB h
    obtain rfl : j = m := by simpa using hj
    simp only [List.length_nil, lexA, Bool.and_eq_true] at hB
    exact ⟨⟨seen, hk, rfl, hB.2, h⟩, fun i hi => by simpa using List.all_eq_true.1 hB.1 i hi⟩
  | cons o l ih =>
    intro j seen a hl hj inv hk hB h
    have h0 : ops[j]? = some o := by simpa using (hl 0 (by simp)).symm
    simp only [List.length_cons, lexA, Bool.and_eq_true] at hB
    have hjs : j ≤ s := by simp only [List.length_cons] at hj; omega
    have hjk : j ≠ k := by omega
    have hr : j ∈ Region.ready md ops (seen.setIfInBounds k true) := by simpa using hB.1.1
    obtain ⟨v, hy, hK⟩ := yieldsR_of_rOp h0 (show rOp P ops C j (wpQuietR P ops C K l) a by unfold rOp; simp only [h0]; exact h)
    refine headsR_first h0 hsel hs hc hn hjs (fun seen' a' hL i hi => by have := hL.2 i hi; omega) l.length _ a inv getD_self (Region.free_spec h0 hB.1.2) hr hy ?_
    · have := ih (j + 1) (seen.setIfInBounds j true) _ (fun i hi => by have := hl (i + 1) (by simp; omega); simpa [Nat.add_assoc, Nat.add_comm 1 i] using this) (by simp only [List.length_cons] at hj; omega)
        (by rw [Array.setIfInBounds_comm _ _ hjk]; exact inv.set hr (.inl hjs)) (by rw [getD_set_ne true hjk]; exact hk) hB.2 hK
      rwa [Array.setIfInBounds_comm _ _ hjk] at this
theorem panic_put {Q : Exit → Act → World → Prop} (hQ : ∀ (d : Tmp) (v : Value) c (a : Act) (w : World), Q (.panic c) { tmps := a.tmps.setIfInBounds d v, defers := a.defers } w → Q (.panic c) a w) (d : Option Tmp) (v : Value) : ∀ c (a : Act) (w : World), Q (.panic c) (a.put d v) w → Q (.panic c) a w := by
  intro c a w h
  cases d with
  | none => exact h
  | some d => exact hQ d v c a w h
/-- The late operations and the last stretch, the alloc being done. -/
theorem late_in {n g k b : Nat} {ok : Oper} {K : Act → Prop} {Q : Exit → Act → World → Prop} (hsel : Region.noSelect ops = true) (hQ : ∀ (d : Tmp) (v : Value) c (a : Act) (w : World), Q (.panic c) { tmps := a.tmps.setIfInBounds d v, defers := a.defers } w → Q (.panic c) a w)
    (hap : ∀ (j : Nat) oj, ops[j]? = some oj → j < k → ok.apart ops oj = true) {tl : List Oper} (htl : ∀ j, tl[j]? = ops[n + j]?) (hg : tl.length = g) {w : World}
    (hK : ∀ a, K a → wpList P ops Q tl (a.put ok.dst (.pointer (some ⟨b, 0, none⟩))) w) :
    ∀ (l : List Oper) (j : Nat) (seen : Array Bool) (a : Act), (∀ i, i < l.length → l[i]? = ops[j + i]?) → j + l.length ≤ k → lexL md ops n g k l.length j seen = true → wpPure P ops K l a →
    wpAny P md ops Q (l.length + g) (seen.setIfInBounds k true) (a.put ok.dst (.pointer (some ⟨b, 0, none⟩))) w := by
  intro l
  induction l with
  | nil =>
    intro j seen a _ _ hB h
    simp only [List.length_nil, lexL, Bool.and_eq_true] at hB
    rw [List.length_nil, Nat.zero_add, ← hg]
    exact wpAny_of_seq tl n _ _ _ htl (by rw [hg]; exact hB.2) (hK a h)
  | cons o l ih =>
    intro j seen a hl hj hB h
    have h0 : ops[j]? = some o := by simpa using (hl 0 (by simp)).symm
    simp only [List.length_cons, lexL, Bool.and_eq_true] at hB
    obtain ⟨_, _, hr, hf, hB'⟩ := hB
    obtain ⟨v, hy, hK'⟩ := h
    simp only [List.length_cons] at hj
    have hjk : j ≠ k := by omega
    obtain ⟨a1, a2, a3⟩ := Oper.apart_spec (hap j o h0 (by omega))
    have sel := Region.noSelect_spec hsel
    have hy' : Yields P ops o v (a.put ok.dst (.pointer (some ⟨b, 0, none⟩))) := hy.of_same (execOp_put o (fun cs c => sel j o cs c h0) a _ _ a1) (wanted_put o a _ _ a1)
    rw [show (o :: l).length + g = (l.length + g) + 1 by simp; omega]
    refine wpAny_take h0 hsel hf hr (panic_put hQ _ _) hy' ?_
    rw [← Act.put_comm a v (.pointer (some ⟨b, 0, none⟩)) (fun d hd e => a2 d e hd), Array.setIfInBounds_comm _ _ (Ne.symm hjk)]
    exact ih (j + 1) _ _ (fun i hi => by have := hl (i + 1) (by simp; omega); simpa [Nat.add_assoc, Nat.add_comm 1 i] using this) (by omega) hB' hK'
/-- The same, the alloc being to come. -/
theorem late_out {N n g k : Nat} {ok : Oper} {o : Obj} {K : Act → Prop} {Q : Exit → Act → World → Prop} (hsel : Region.noSelect ops = true) (hQ : ∀ (d : Tmp) (v : Value) c (a : Act) (w : World), Q (.panic c) { tmps := a.tmps.setIfInBounds d v, defers := a.defers } w → Q (.panic c) a w)
    (hap : ∀ (j : Nat) oj, ops[j]? = some oj → j < k → ok.apart ops oj = true) {tl : List Oper} (htl : ∀ j, tl[j]? = ops[n + j]?) (hg : tl.length = g) {w : World} (hN : N ≤ w.heap.size) (hCA : C (w.alloc o)) (hk0 : ops[k]? = some ok)
    (hgd : ok.guard = none) (hrun : ∀ (a : Act) w, (execOp a.eval ok).run P w = .ok (.value (.pointer (some ⟨w.heap.size, 0, none⟩))) (w.alloc o))
    (hK : ∀ a, K a → ∀ b w, N ≤ b → C w → w.heap[b]? = some o → wpList P ops Q tl (a.put ok.dst (.pointer (some ⟨b, 0, none⟩))) w) :
    ∀ (l : List Oper) (j : Nat) (seen : Array Bool) (a : Act), (∀ i, i < l.length → l[i]? = ops[j + i]?) → j + l.length ≤ k → lexL md ops n g k l.length j seen = true → wpPure P ops K l a →
    wpAny P md ops Q (l.length + g + 1) seen a w := by
  intro l
  induction l with
  | nil =>
    intro j seen a _ _ hB h
    simp only [List.length_nil, lexL, Bool.and_eq_true, beq_iff_eq] at hB
    rw [List.length_nil, Nat.zero_add]
    refine ⟨fun h0 => (by rw [h0] at hB; cases hB.1), fun i hi => ?_⟩
    rw [hB.1] at hi
    obtain rfl : i = k := by simpa using hi
    unfold wpOp
    simp only [hk0]
    rw [if_pos (by simp [Region.wanted, hgd])]
    refine .inl ?_
    unfold Oper.wp
    rw [hrun]
    simp only [Oper.upon]
    rw [← hg]
    exact wpAny_of_seq tl n _ _ _ htl (by rw [hg]; exact hB.2) (hK a h w.heap.size _ hN hCA (heap_alloc_new w o))
  | cons oj l ih =>
    intro j seen a hl hj hB h
    have h0 : ops[j]? = some oj := by simpa using (hl 0 (by simp)).symm
    simp only [List.length_cons, lexL, Bool.and_eq_true] at hB
    obtain ⟨hr, hf, _, _, hB'⟩ := hB
    obtain ⟨v, hy, hK'⟩ := h
    simp only [List.length_cons] at hj
    rw [show (oj :: l).length + g + 1 = (l.length + g + 1) + 1 by simp; omega]
    refine wpAny_take h0 hsel hf hr (panic_put hQ _ _) hy ?_
    exact ih (j + 1) _ _ (fun i hi => by have := hl (i + 1) (by simp; omega); simpa [Nat.add_assoc, Nat.add_comm 1 i] using this) (by omega) hB' hK'
/-- The alloc has come up: its block is b. -/
theorem headsR_in {m g k : Nat} {ok : Oper} {L : Array Bool → Act → Prop} {Q : Exit → Act → World → Prop} {b : Nat} {o : Obj}
    (hap : ∀ (j : Nat) oj, ops[j]? = some oj → j < k → ok.apart ops oj = true) (hmk : m ≤ k) (hsel : Region.noSelect ops = true) (hC : ∀ w w', C w → Top w w' → C w')
    (hL : ∀ seen a w, C w → w.heap[b]? = some o → L seen a → wpAny P md ops Q g seen (a.put ok.dst (.pointer (some ⟨b, 0, none⟩))) w) :
    ∀ (f : Nat) (seen : Array Bool) (a : Act) (w : World), seen.getD k true = true → C w → w.heap[b]? = some o → HeadsR P md ops C m L f seen a → wpAny P md ops Q (f + g) seen (a.put ok.dst (.pointer (some ⟨b, 0, none⟩))) w := by
  intro f
  induction f with
  | zero => intro seen a w _ hw hb h; rw [Nat.zero_add]; exact hL seen a w hw hb h
  | succ f ih =>
    intro seen a w hk hw hb h
    rw [show f + 1 + g = (f + g) + 1 by omega]
    refine ⟨fun h0 => absurd h0 h.1, fun i hi => ?_⟩
    obtain ⟨hin, hop⟩ := h.2 i hi
    obtain ⟨hun, oi, hoi, _⟩ := mem_ready.1 hi
    have hik : i ≠ k := fun e => by rw [e] at hun; rw [hun] at hk; cases hk
    refine wpOp_of_rOp hw (fun a' w' ht ⟨a0, e, h3⟩ => ?_) (rOp_slot (x := .pointer (some ⟨b, 0, none⟩)) hoi (hap i oi hoi (by omega)) (fun cs c => Region.noSelect_spec hsel i oi cs c hoi) hop)
    rw [e]
    exact ih _ a0 w' (by rw [getD_set_ne true hik]; exact hk) (hC w w' hw ht) ((ht.block b (blk_lt hb)).trans hb) h3
/-- It has not. -/
theorem headsR_out {N s g k : Nat} {ok : Oper} {L : Array Bool → Act → Prop} {Q : Exit → Act → World → Prop} {o : Obj} (hk0 : ops[k]? = some ok) (hsk : s < k) (hs : Region.sinkB md ops s = true) (hc : lateB md ops s k = true) (hn : s < ops.size)
    (hap : ∀ (j : Nat) oj, ops[j]? = some oj → j < k → ok.apart ops oj = true) (hsel : Region.noSelect ops = true) (hC : ∀ w w', C w → Top w w' → C w') (hN : ∀ w, C w → N ≤ w.heap.size) (hre : ok.after = #[])
    (hg : ok.guard = none) (hrun : ∀ (a : Act) w, (execOp a.eval ok).run P w = .ok (.value (.pointer (some ⟨w.heap.size, 0, none⟩))) (w.alloc o))
    (hL : ∀ b seen a w, N ≤ b → C w → w.heap[b]? = some o → L seen a → wpAny P md ops Q g seen (a.put ok.dst (.pointer (some ⟨b, 0, none⟩))) w)
    (hO : ∀ seen a w, seen.getD k true = false → C w → L (seen.setIfInBounds k true) a → wpAny P md ops Q (g + 1) seen a w) :
    ∀ (f : Nat) (seen : Array Bool) (a : Act) (w : World), seen.getD k true = false → C w → HeadsR P md ops C (s + 1) L f (seen.setIfInBounds k true) a → wpAny P md ops Q (f + g + 1) seen a w := by
  intro f
  induction f with
  | zero => intro seen a w hun hw h; rw [Nat.zero_add]; exact hO seen a w hun hw h
  | succ f ih =>
    intro seen a w hun hw h
    have hr : k ∈ Region.ready md ops seen := mem_ready.2 ⟨hun, ok, hk0, fun e he => by rw [hre] at he; simp at he⟩
    rw [show f + 1 + g + 1 = (f + 1 + g) + 1 by omega]
    refine ⟨fun h0 => (by rw [h0] at hr; cases hr), fun i hi => ?_⟩
    by_cases e : i = k
    · subst e
      unfold wpOp
      simp only [hk0]
      rw [if_pos (by simp [Region.wanted, hg])]
      refine .inl ?_
      unfold Oper.wp
      rw [hrun]
      simp only [Oper.upon]
      have ht : Top w (w.alloc o) := (Below.refl _ _).alloc (Nat.le_refl _) o
      exact headsR_in hap (by omega) hsel hC (fun seen a w' hw' => hL w.heap.size seen a w' (hN w hw) hw') (f + 1) _ a (w.alloc o) getD_self (hC w _ hw ht) (heap_alloc_new w o) h
    · have hop := h.2 i (ready_mono hi e)
      refine wpOp_of_rOp hw (fun a' w' ht h3 => ?_) hop.2
      have := ih (seen.setIfInBounds i true) a' w' (by rw [getD_set_ne true e]; exact hun) (hC w w' hw ht) (by rw [Array.setIfInBounds_comm _ _ e]; exact h3)
      rwa [show f + 1 + g = f + g + 1 by omega]
end
def lexAllocB (ops : Array Oper) (m k : Nat) : Bool :=
  Region.noSelect ops && (decide (0 < m) && (decide (m ≤ k) && (decide (k < ops.size) && (Region.sinkB .any ops (m - 1) && (lateB .any ops (m - 1) k && (Region.free .any ops (Array.replicate ops.size false) k && (((List.range k).all fun j => !Region.waitsFor .any ops j k)
    && lexA .any ops (k + 1) (ops.size - (k + 1)) k (k - m) m 0 (Array.replicate ops.size false))))))))
/-- m quiet operations, some late ones that lean on no world, an alloc (number k) that may come up wherever, then the others, one behind the other. -/
theorem region_allocR {P : Program} {id : Nat} {Q : Exit → Act → World → Prop} {a : Act} {w : World} {l : List Oper} (N : Nat) (C : World → Prop) (m k d : Nat) (ok : Oper) (o : Obj) (hm : P.follows .mixedOrders = true) (hB : lexAllocB l.toArray m k = true)
    (hk0 : l[k]? = some ok) (hd : ok.dst = some d) (hre : ok.after = #[]) (hg : ok.guard = none) (hrun : ∀ (a : Act) w, (execOp a.eval ok).run P w = .ok (.value (.pointer (some ⟨w.heap.size, 0, none⟩))) (w.alloc o))
    (hC : C w.drew) (hCT : ∀ w w', C w → Top w w' → C w') (hN : ∀ w, C w → N ≤ w.heap.size) (hQ : ∀ (d : Tmp) (v : Value) c (a : Act) (w : World), Q (.panic c) { tmps := a.tmps.setIfInBounds d v, defers := a.defers } w → Q (.panic c) a w)
    (h : wpQuietR P l.toArray C (wpPure P l.toArray (fun a' => ∀ b w', N ≤ b → C w' → w'.heap[b]? = some o → wpList P l.toArray Q (l.drop (k + 1)) { tmps := a'.tmps.setIfInBounds d (.pointer (some ⟨b, 0, none⟩)), defers := a'.defers } w') ((l.drop m).take (k - m))) (l.take m) a) :
    (Code.region id l.toArray true).wp P Q a w := by
  simp only [lexAllocB, Bool.and_eq_true, decide_eq_true_eq] at hB
  obtain ⟨hsel, hm0, hmk, hks, hs, hc, hfr, hwt, hlex⟩ := hB
  have hks' : k < l.length := by simpa using hks
  have htl : (l.take m).length = m := by simp; omega
  have hll : ((l.drop m).take (k - m)).length = k - m := by simp; omega
  have hk1 : l.toArray[k]? = some ok := by simpa using hk0
  have fr0 : (Array.replicate l.toArray.size false).getD k true = false := getD_in (by simp; omega) (getD_replicate_false _ _)
  have inv0 : InvK .any l.toArray (m - 1) k (Array.replicate l.toArray.size false) :=
    ⟨by simp, fun j oj _ hl => (by rw [getD_replicate_false] at hl; cases hl), fun t _ _ ht => getD_in (by simpa using ht) (getD_replicate_false _ _)⟩
  have inv1 := inv0.set (i := k) (mem_ready.2 ⟨fr0, ok, hk1, fun e he => by rw [hre] at he; simp at he⟩) (.inr rfl)
  have hap : ∀ (j : Nat) oj, l.toArray[j]? = some oj → j < k → ok.apart l.toArray oj = true := by
    intro j oj hj hjk
    refine Region.free_spec hk1 hfr j oj hj (by omega) (getD_in (by simp; omega) (getD_replicate_false _ _)) ?_
    intro e he hb heq
    have h1 := List.all_eq_true.1 hwt j (List.mem_range.2 hjk)
    have h2 : Region.waitsFor .any l.toArray j k = true := by
      unfold Region.waitsFor
      rw [hj]
      exact Array.any_eq_true'.2 ⟨e, he, by simp [hb, heq]⟩
    rw [h2] at h1
    cases h1
  have H := headsR_lex (P := P) (md := .any) (C := C) (s := m - 1) (k := k) (m := m) (n := k + 1) (late := k - m) (g := l.toArray.size - (k + 1)) hsel hs hc (by simp; omega) (by omega) (by omega) (l.take m) 0 _ a (fun j hj => by rw [htl] at hj; simp [hj]) (by simpa using htl)
    inv1 fr0 (by rw [htl]; exact hlex) h
  rw [htl] at H
  have hdl : (l.drop (k + 1)).length = l.toArray.size - (k + 1) := by simp
  have hdg : ∀ j, (l.drop (k + 1))[j]? = l.toArray[k + 1 + j]? := fun j => by simp [List.getElem?_drop]
  have hlg : ∀ i, i < ((l.drop m).take (k - m)).length → ((l.drop m).take (k - m))[i]? = l.toArray[m + i]? := fun i hi => by
    rw [hll] at hi
    simp [List.getElem?_drop, hi]
  refine wp_region_any hm ?_
  have H2 := headsR_out (Q := Q) (g := k - m + (l.toArray.size - (k + 1))) (o := o) hk1 (show m - 1 < k by omega) hs hc (by simp; omega) hap hsel hCT hN hre hg hrun
    (fun b seen a' w' hNb hw' hb hL => by
      obtain ⟨⟨seen0, h0, e, hx, hy⟩, _⟩ := hL
      rw [e]
      have := late_in (Q := Q) (b := b) (w := w') hsel hQ hap hdg hdl (fun a'' h'' => by have := h'' b w' hNb hw' hb; simpa [Act.put, hd] using this) _ m seen0 a' hlg (by rw [hll]; omega) (by rw [hll]; exact hx) hy
      rwa [hll] at this)
    (fun seen a' w' hun hw' hL => by
      obtain ⟨⟨seen0, h0, e, hx, hy⟩, _⟩ := hL
      rw [set_inj e hun h0]
      have := late_out (C := C) (Q := Q) (N := N) (w := w') hsel hQ hap hdg hdl (hN w' hw') (hCT w' _ hw' ((Below.refl _ _).alloc (Nat.le_refl _) o)) hk1 hg hrun (fun a'' h'' b w'' h1 h2 h3 => by have := h'' b w'' h1 h2 h3; simpa [Act.put, hd] using this) _ m seen0 a' hlg (by rw [hll]; omega) (by rw [hll]; exact hx) hy
      rwa [hll] at this) _ _ _ _ fr0 hC H
  rw [show m + (k - m + (l.toArray.size - (k + 1))) + 1 = l.toArray.size by simp; omega] at H2
  exact H2
theorem wpPure_nil {P : Program} {ops : Array Oper} {K : Act → Prop} {a : Act} (h : K a) : wpPure P ops K [] a := h
theorem wpPure_take {P : Program} {ops : Array Oper} {K : Act → Prop} {a : Act} {o : Oper} {rest : List Oper} {v : Value} (d : Nat) (hd : o.dst = some d) (hw : Region.wanted o (yielded ops a.tmps) = true)
    (h : ∀ w, (execOp a.eval o).run P w = .ok (.value v) w) (hr : wpPure P ops K rest { tmps := a.tmps.setIfInBounds d v, defers := a.defers }) : wpPure P ops K (o :: rest) a :=
  ⟨v, .inl ⟨hw, h⟩, by simpa [Act.put, hd] using hr⟩
theorem wpQuiet_of_R {P : Program} {ops : Array Oper} {C : World → Prop} (hCT : ∀ w w', C w → Top w w' → C w') {Q : Act → Prop} : ∀ {l : List Oper} {a : Act}, wpQuietR P ops C Q l a → wpQuiet P ops C Q l a
  | [], _, h => h
  | o :: l, a, h => by
    unfold wpQuietR at h
    unfold wpQuiet
    split
    · rename_i hw
      rw [if_pos hw] at h
      obtain ⟨v, h1, h2⟩ := h
      refine ⟨v, fun w hC => ?_, wpQuiet_of_R hCT h2⟩
      have h3 := h1 w hC
      unfold Oper.quietAt at *
      generalize (execOp a.eval o).run P w = r at *
      cases r with
      | ok n w' =>
        cases n <;> simp only [Oper.quietUpon] at h3 ⊢
        all_goals first
          | exact h3
          | (obtain ⟨e1, hc⟩ := h3; exact ⟨e1, hc.mono fun e w'' ⟨he, ht⟩ => ⟨he, hCT _ _ hC (by rw [← e1]; rw [← e1] at ht; exact ht)⟩⟩)
      | halt x w' => simp only [Oper.quietUpon] at h3
    · rename_i hw
      rw [if_neg hw] at h
      exact wpQuiet_of_R hCT h
/-- All operations are quiet. -/
theorem region_quietR {P : Program} {id : Nat} {Q : Exit → Act → World → Prop} {a : Act} {w : World} {l : List Oper} (C : World → Prop) (hm : P.follows .mixedOrders = true) (hB : Region.lexB .any l.toArray = true) (hC : C w.drew) (hCT : ∀ w w', C w → Top w w' → C w')
    (h : wpQuietR P l.toArray C (fun a' => ∀ w', C w' → Q .normal a' w') l a) : (Code.region id l.toArray true).wp P Q a w :=
  region_quietC C hm hB hC (wpQuiet_of_R hCT h)
/-- n operations are quiet; then the others, one behind the other. -/
theorem region_tailR {P : Program} {id : Nat} {Q : Exit → Act → World → Prop} {a : Act} {w : World} {l : List Oper} (C : World → Prop) (n : Nat) (hm : P.follows .mixedOrders = true) (hB : Region.lexTailB .any l.toArray n = true) (hC : C w.drew) (hCT : ∀ w w', C w → Top w w' → C w')
    (h : wpQuietR P l.toArray C (fun a' => ∀ w', C w' → wpList P l.toArray Q (l.drop n) a' w') (l.take n) a) : (Code.region id l.toArray true).wp P Q a w :=
  region_tailC C n hm hB hC (wpQuiet_of_R hCT h)
/-- Worlds that lie above one. -/
theorem top_closed (n : Nat) (w0 : World) (hn : n ≤ w0.heap.size) : ∀ w w', Below n w0 w → Top w w' → Below n w0 w' := fun _ _ h ht => h.trans (ht.mono (Nat.le_trans hn h.size))
end Go.Proofs.YthnommoljikaiaaDoor
