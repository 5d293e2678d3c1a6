/- MsgBack: the walk over the law. -/
import Derived.Test.YthnommoljikaiaaMsg13
import Derived.Deep.CutRange
set_option linter.unusedSimpArgs false
set_option linter.unusedVariables false
namespace Go.Proofs.Ythnommoljikaiaa
open Go.RowKit

def MsgA.mkQ (m : MsgA) (A2 : Option Addr) (c2 : Nat) (A3 : Option Addr) (c3 : Nat) : Array Value := reqCells m.c m.i m.k m.nm m.g (.slice A2 m.n2 c2) (.slice A3 m.n3 c3)
def MsgA.mkP (m : MsgA) (A2 : Option Addr) (c2 : Nat) (A3 : Option Addr) (c3 : Nat) : Array Value := repCells m.c m.i m.k m.g (.slice A2 m.n2 c2) (.slice A3 m.n3 c3)
/-- What is read of what was put. -/
def BackO (w : World) (m : MsgA) (mk : Option Addr → Nat → Option Addr → Nat → Array Value) (e : Ending) (w' : World) : Prop := ∃ A2 c2 A3 c3, e = .returned (.tuple #[.agg (mk A2 c2 A3 c3), .int .i64 0]) ∧ RdB w' A2 (16 * m.n2) m.flat ∧ RdB w' A3 m.n3 m.ds ∧ Below w.heap.size w w'
theorem putM_B {kind lo hi : Int} {named : Bool} {c k i g : Int} {nm : List Int} {n2 : Nat} {flat : List Int} {n3 : Nat} {ds : List Int} {L : List Int} (h : putM kind lo hi named c k i g nm n2 flat n3 ds = (L, 0)) (hk : 0 ≤ kind ∧ kind < 256) (hlo : 0 ≤ lo) (hhi : hi ≤ 255) (h1 : IsB nm) (h2 : IsB flat) (h3 : IsB ds) : IsB L := by
  have := putM_isB (kind := kind) (lo := lo) (hi := hi) (named := named) (c := c) (k := k) (i := i) (g := g) (n2 := n2) (n3 := n3) hk hlo hhi h1 h2 h3
  rw [h] at this
  exact this
section
variable {m : MsgA} {w0 : World} {L : List Int}
theorem MsgA.Full.backq (h : m.Full w0) (hr : m.Rng) (hp : m.putQ = (L, 0)) (n : Nat) (hn : L.length = n) (A : Option Addr) (c : Nat) (w : World) (h1 : RdB w A n L) (h2 : A = none → c = 0) (h3 : n ≤ c) :
    Calls Try.prog 62 #[.slice A n c] w (BackO w m m.mkQ) := by
  have b := put_back hp (by decide) (by decide) (by decide) hr.1 hr.2.1 h.1 (fun h => by cases h) h.2.2.1.1 h.2.2.2.2.1.1
  refine (readq_any A n c L w h1 h2 h3 (putM_B hp (by decide) (by decide) (by decide) h.2.1 h.2.2.2.1 h.2.2.2.2.2.2) (by omega) _ b.1).mono ?_
  rintro e w' ⟨v2, n2, v3, rfl, ho, hv, hb⟩
  rw [b.2.1]
  have hl := ho.len
  obtain ⟨A2, c2, rfl, hr2, _⟩ := ho.rd
  obtain ⟨A3, c3, rfl, hr3, _, _⟩ := hv.rdn (n := m.n3) h.2.2.2.2.1.1
  have e2 : n2 = m.n2 := by
    have := h.2.2.1.1
    dsimp only at hl
    omega
  subst e2
  exact ⟨A2, c2, A3, c3, rfl, hr2, hr3, hb⟩
theorem MsgA.Full.backp (h : m.Full w0) (hr : m.Rng) (hp : m.putP = (L, 0)) (n : Nat) (hn : L.length = n) (A : Option Addr) (c : Nat) (w : World) (h1 : RdB w A n L) (h2 : A = none → c = 0) (h3 : n ≤ c) :
    Calls Try.prog 63 #[.slice A n c] w (BackO w m m.mkP) := by
  have b := put_back hp (by decide) (by decide) (by decide) hr.1 hr.2.1 rfl (fun _ => rfl) h.2.2.1.1 h.2.2.2.2.1.1
  refine (readp_any A n c L w h1 h2 h3 (putM_B hp (by decide) (by decide) (by decide) zero16_isB h.2.2.2.1 h.2.2.2.2.2.2) (by omega) _ b.1).mono ?_
  rintro e w' ⟨v2, n2, v3, rfl, ho, hv, hb⟩
  rw [b.2.1]
  have hl := ho.len
  obtain ⟨A2, c2, rfl, hr2, _⟩ := ho.rd
  obtain ⟨A3, c3, rfl, hr3, _, _⟩ := hv.rdn (n := m.n3) h.2.2.2.2.1.1
  have e2 : n2 = m.n2 := by
    have := h.2.2.1.1
    dsimp only at hl
    omega
  subst e2
  exact ⟨A2, c2, A3, c3, rfl, hr2, hr3, hb⟩
theorem readq_not {bs : List Int} {n : Nat} (hB : IsB bs) (hbig : n ≤ 65537) (hg : goodR 1 1 6 true (readM true (openOf bs).2.1) bs = false) (A : Option Addr) (c : Nat) (w : World) (h1 : RdB w A n bs) (h2 : A = none → c = 0) (h3 : n ≤ c) :
    Calls Try.prog 62 #[.slice A n c] w fun e w' => e = .returned (.tuple #[.agg (reqCells 0 0 0 zero16 0 nilV nilV), .int .i64 11]) ∧ Below w.heap.size w w' := by
  refine (readq_any A n c bs w h1 h2 h3 hB (by omega) _ rfl).mono ?_
  rintro e w' ⟨v2, n2, v3, rfl, ho, hv, hb⟩
  rw [hg]
  exact ⟨rfl, hb⟩
theorem readp_not {bs : List Int} {n : Nat} (hB : IsB bs) (hbig : n ≤ 65537) (hg : goodR 2 0 9 false (readM false (openOf bs).2.1) bs = false) (A : Option Addr) (c : Nat) (w : World) (h1 : RdB w A n bs) (h2 : A = none → c = 0) (h3 : n ≤ c) :
    Calls Try.prog 63 #[.slice A n c] w fun e w' => e = .returned (.tuple #[.agg (repCells 0 0 0 0 nilV nilV), .int .i64 11]) ∧ Below w.heap.size w w' := by
  refine (readp_any A n c bs w h1 h2 h3 hB (by omega) _ rfl).mono ?_
  rintro e w' ⟨v2, n2, v3, rfl, ho, hv, hb⟩
  rw [hg]
  exact ⟨rfl, hb⟩
end
theorem req_other (c i i1 k : Int) (nm : List Int) (g : Int) (nv dv : Value) : (reqCells c i k nm g nv dv).setIfInBounds 1 (.int .u64 i1) = reqCells c i1 k nm g nv dv := by
  unfold reqCells reqList
  rw [List.setIfInBounds_toArray]
  rfl
theorem rep_again (c i k k1 g : Int) (nv dv : Value) : (repCells c i k g nv dv).setIfInBounds 2 (.int .i64 k1) = repCells c i k1 g nv dv := rfl
theorem putM_err {kind lo hi : Int} {named : Bool} {c k i g : Int} {nm : List Int} {n2 : Nat} {flat : List Int} {n3 : Nat} {ds : List Int} : (putM kind lo hi named c k i g nm n2 flat n3 ds).2 = 0 ∨ (putM kind lo hi named c k i g nm n2 flat n3 ds).2 = 2 := by
  unfold putM
  split
  · exact .inl rfl
  · exact .inr rfl
/-- What is asked of a request's way: what is put, if it is. -/
structure WayQ (w0 : World) (q : MsgA) (L : List Int) (n : Nat) : Prop where
  read : ∀ A c w, RdB w A n L → (A = none → c = 0) → n ≤ c → Calls Try.prog 62 #[.slice A n c] w (BackO w q q.mkQ)
  other : ∀ A c w, RdB w A n L → (A = none → c = 0) → n ≤ c → Calls Try.prog 63 #[.slice A n c] w fun e w' => e = .returned (.tuple #[.agg (repCells 0 0 0 0 nilV nilV), .int .i64 11]) ∧ Below w.heap.size w w'
  more : ∀ A c w, RdB w A (n + 1) (L ++ [0]) → (A = none → c = 0) → n + 1 ≤ c → Calls Try.prog 62 #[.slice A (n + 1) c] w fun e w' => e = .returned (.tuple #[.agg (reqCells 0 0 0 zero16 0 nilV nilV), .int .i64 11]) ∧ Below w.heap.size w w'
  same : ∀ A2 c2 A3 c3 w, RdB w A2 (16 * q.n2) q.flat → RdB w A3 q.n3 q.ds → Below w0.heap.size w0 w → Calls Try.prog 64 #[.agg (q.mkQ A2 c2 A3 c3), .agg q.reqC] w fun e w' => e = .returned (.bool true) ∧ Below w.heap.size w w'
  len : n ≤ 65536
structure WayP (w0 : World) (p : MsgA) (L : List Int) (n : Nat) : Prop where
  read : ∀ A c w, RdB w A n L → (A = none → c = 0) → n ≤ c → Calls Try.prog 63 #[.slice A n c] w (BackO w p p.mkP)
  other : ∀ A c w, RdB w A n L → (A = none → c = 0) → n ≤ c → Calls Try.prog 62 #[.slice A n c] w fun e w' => e = .returned (.tuple #[.agg (reqCells 0 0 0 zero16 0 nilV nilV), .int .i64 11]) ∧ Below w.heap.size w w'
  same : ∀ A2 c2 A3 c3 w, RdB w A2 (16 * p.n2) p.flat → RdB w A3 p.n3 p.ds → Below w0.heap.size w0 w → Calls Try.prog 65 #[.agg (p.mkP A2 c2 A3 c3), .agg p.repC] w fun e w' => e = .returned (.bool true) ∧ Below w.heap.size w w'
theorem MsgA.Full.wayq {q : MsgA} {w0 : World} {L : List Int} (h : q.Full w0) (hr : q.Rng) (hp : q.putQ = (L, 0)) (n : Nat) (hn : L.length = n) : WayQ w0 q L n := by
  have b := put_back hp (by decide) (by decide) (by decide) hr.1 hr.2.1 h.1 (fun h => by cases h) h.2.2.1.1 h.2.2.2.2.1.1
  have hB := putM_B hp (by decide) (by decide) (by decide) h.2.1 h.2.2.2.1 h.2.2.2.2.2.2
  have hz := putM_zero hp
  refine ⟨fun A c w => h.backq hr hp n hn A c w, fun A c w => readp_not hB (by omega) (by rw [hz.2]; exact good_kinds (by decide) _ _ _ _ _) A c w, fun A c w => readq_not (isB_append hB (isB_one (by decide))) (by omega) (good_less b.2.2.1 _) A c w, fun A2 c2 A3 c3 w h1 h2 hb => ?_, by omega⟩
  exact sameq_true q.c q.i q.k q.nm q.g A2 q.n2 c2 q.flat A3 q.n3 c3 q.ds q.A2 q.cap2 q.A3 q.cap3 w h.1 h1 (h.2.2.1.below hb) h2 (h.2.2.2.2.1.below hb) h.2.2.2.2.2.2 (by omega)
theorem MsgA.Full.wayp {p : MsgA} {w0 : World} {L : List Int} (h : p.Full w0) (hr : p.Rng) (hp : p.putP = (L, 0)) (n : Nat) (hn : L.length = n) : WayP w0 p L n := by
  have b := put_back hp (by decide) (by decide) (by decide) hr.1 hr.2.1 rfl (fun _ => rfl) h.2.2.1.1 h.2.2.2.2.1.1
  have hB := putM_B hp (by decide) (by decide) (by decide) zero16_isB h.2.2.2.1 h.2.2.2.2.2.2
  have hz := putM_zero hp
  refine ⟨fun A c w => h.backp hr hp n hn A c w, fun A c w => readq_not hB (by omega) (by rw [hz.2]; exact good_kinds (by decide) _ _ _ _ _) A c w, fun A2 c2 A3 c3 w h1 h2 hb => ?_⟩
  exact samep_true p.c p.i p.k zero16 p.g A2 p.n2 c2 p.flat A3 p.n3 c3 p.ds p.A2 p.cap2 p.A3 p.cap3 w rfl h1 (h.2.2.1.below hb) h2 (h.2.2.2.2.1.below hb) h.2.2.2.2.2.2 (by omega)
theorem mkQ_is {m : MsgA} (h : m.nm.length = 16) (A2 : Option Addr) (c2 : Nat) (A3 : Option Addr) (c3 : Nat) : (Try.prog.info? 116).map (·.size) = some (m.mkQ A2 c2 A3 c3).size ∧ (m.mkQ A2 c2 A3 c3).size = 22 ∧ ∀ v ∈ (m.mkQ A2 c2 A3 c3).toList, v.oneCell' = true :=
  ⟨req_is h, req_size _ _ _ _ _ _ _ h, req_one _ _ _ _ _ _ _ _ _ _ _⟩
theorem mkP_is {m : MsgA} (A2 : Option Addr) (c2 : Nat) (A3 : Option Addr) (c3 : Nat) : (Try.prog.info? 118).map (·.size) = some (m.mkP A2 c2 A3 c3).size ∧ (m.mkP A2 c2 A3 c3).size = 6 ∧ ∀ v ∈ (m.mkP A2 c2 A3 c3).toList, v.oneCell' = true :=
  ⟨rep_is, rfl, rep_one _ _ _ _ _ _ _ _ _ _⟩
end Go.Proofs.Ythnommoljikaiaa
