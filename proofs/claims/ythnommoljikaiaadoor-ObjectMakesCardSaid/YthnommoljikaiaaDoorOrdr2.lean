/- A Reader of package wire, whatever became of it: take, Raw, Num, Wrong, Sized. -/
import Derived.Test.YthnommoljikaiaaDoorOrdr1
import Derived.Test.YthnommoljikaiaaDoorOonly
set_option linter.unusedSimpArgs false
set_option linter.unusedVariables false
namespace Go.Proofs.YthnommoljikaiaaDoor
open Go.RowKit

def wrongV (bad : Int) : Value := if bad = 0 then .nilIface else .iface 44 (.int .i64 bad)
/-- A reader in block R: the bytes that are left (in a block from lo on, ahead of R); what is wrong (0: nothing). -/
def RdrL (lo : Nat) (w : World) (R : Nat) (bs : List Int) (bad : Int) : Prop :=
  ∃ A c, RdrAt w R (.slice A bs.length c) (wrongV bad) ∧ RdB w A bs.length bs ∧ bs.length ≤ c ∧ (A = none → c = 0) ∧ (∀ a, A = some a → lo ≤ a.block ∧ a.block < R)
def Rdr (w : World) (R : Nat) (bs : List Int) (bad : Int) : Prop := RdrL 0 w R bs bad
variable {lo : Nat}
theorem RdrL.lt {w : World} {R : Nat} {bs : List Int} {bad : Int} (h : RdrL lo w R bs bad) : R < w.heap.size := by
  obtain ⟨A, c, h1, _⟩ := h
  exact blk_lt h1
theorem RdrL.kept {w w' : World} {R : Nat} {bs : List Int} {bad : Int} (h : RdrL lo w R bs bad) (hb : Below w.heap.size w w') : RdrL lo w' R bs bad := by
  obtain ⟨A, c, h1, h2, h3, h4, h5⟩ := h
  exact ⟨A, c, (hb.block R (blk_lt h1)).trans h1, h2.below hb, h3, h4, h5⟩
theorem RdrL.base {w : World} {R : Nat} {bs : List Int} {bad : Int} (h : RdrL lo w R bs bad) : Rdr w R bs bad := by
  obtain ⟨A, c, h1, h2, h3, h4, h5⟩ := h
  exact ⟨A, c, h1, h2, h3, h4, fun a ha => ⟨Nat.zero_le _, (h5 a ha).2⟩⟩
theorem Rdr.lt {w : World} {R : Nat} {bs : List Int} {bad : Int} (h : Rdr w R bs bad) : R < w.heap.size := RdrL.lt h
theorem Rdr.kept {w w' : World} {R : Nat} {bs : List Int} {bad : Int} (h : Rdr w R bs bad) (hb : Below w.heap.size w w') : Rdr w' R bs bad := RdrL.kept h hb
def rShut (bad m : Int) : Prop := m < 1 ∨ bad ≠ 0
instance (bad m : Int) : Decidable (rShut bad m) := inferInstanceAs (Decidable (_ ∨ _))
def rOut (bs : List Int) (bad m : Int) : List Int := if rShut bad m then [] else if (bs.length : Int) < m then [] else bs.take m.toNat
def rRest (bs : List Int) (bad m : Int) : List Int := if rShut bad m then bs else if (bs.length : Int) < m then [] else bs.drop m.toNat
def rBad (bs : List Int) (bad m : Int) : Int := if rShut bad m then bad else if (bs.length : Int) < m then 10 else 0
theorem rOut_isB {bs : List Int} (h : IsB bs) (bad m : Int) : IsB (rOut bs bad m) := by
  unfold rOut
  split
  · exact isB_nil
  · split
    · exact isB_nil
    · exact isB_take h _
theorem rRest_isB {bs : List Int} (h : IsB bs) (bad m : Int) : IsB (rRest bs bad m) := by
  unfold rRest
  split
  · exact h
  · split
    · exact isB_nil
    · exact isB_drop h _
theorem rOut_le (bs : List Int) (bad m : Int) : (rOut bs bad m).length ≤ bs.length := by
  unfold rOut
  split
  · exact Nat.zero_le _
  · split
    · exact Nat.zero_le _
    · rw [List.length_take]; exact Nat.min_le_right _ _
theorem rRest_le (bs : List Int) (bad m : Int) : (rRest bs bad m).length ≤ bs.length := by
  unfold rRest
  split
  · exact Nat.le_refl _
  · split
    · exact Nat.zero_le _
    · rw [List.length_drop]; exact Nat.sub_le _ _
/-- Of the blocks that lay there R alone is written. -/
def OnlyR (R : Nat) (w w' : World) : Prop := Only (fun k => k = R) w w'
theorem onlyR_set {w : World} {R j : Nat} (v : Value) : OnlyR R w (w.setCell ⟨R, j, none⟩ v) := Only.setCell (S := fun k => k = R) (Only.refl _ _) (p := ⟨R, j, none⟩) rfl v
theorem rdB_set {w : World} {R j : Nat} {v : Value} {A : Option Addr} {n : Nat} {bs : List Int} (h : RdB w A n bs) (hR : ∀ a, A = some a → a.block ≠ R) : RdB (w.setCell ⟨R, j, none⟩ v) A n bs :=
  ⟨h.1, fun hn => by
    obtain ⟨b, o, rfl, hb, hc⟩ := h.2 hn
    have hne : b ≠ R := hR _ rfl
    exact ⟨b, o, rfl, by simpa [World.setCell] using hb, fun j hj => by rw [World.cell?_setCell_far _ _ _ _ (fun e => hne e.symm)]; exact hc j hj⟩⟩
def rOk (bs : List Int) (bad m : Int) : Bool := !(decide (rShut bad m) || decide ((bs.length : Int) < m))
set_option maxRecDepth 100000 in
theorem rfail_any (w : World) (R : Nat) (v e : Value) (code : Int) (hR : RdrAt w R v e) (hc : code ≠ 0) :
    Calls Tryd.prog 82 #[.pointer (some ⟨R, 0, none⟩), .int .i64 code] w fun e w' => e = .returned (.tuple #[]) ∧ RdrL lo w' R [] code ∧ OnlyR R w w' := by
  have c0 : w.cell? ⟨R, 0, none⟩ = some v := blk_cell hR rfl
  have c1 : w.cell? ⟨R, 1, none⟩ = some e := blk_cell hR rfl
  have f0 : w.frozen? ⟨R, 0, none⟩ = false := blk_frozen 0 hR
  have f1 : w.frozen? ⟨R, 1, none⟩ = false := blk_frozen 1 hR
  have HR := bx hR
  clear hR
  go_enter Tryd.func82, Tryd.ntmps82
  go_wp2_with fail
  have u0 := upd_cell HR.out (j := 0) (.slice none 0 0)
  have u1 := upd_cell u0.same (j := 1) (.iface 44 (.int .i64 code))
  refine bodyPost_end (results_none rfl _ _ _) rfl ⟨rfl, ⟨none, 0, ?_, ⟨rfl, fun h => absurd h (by decide)⟩, Nat.le_refl _, fun _ => rfl, (fun a ha => by cases ha)⟩, Only.upd (S := fun k => k = R) (Only.upd (S := fun k => k = R) (Only.refl _ _) u0 rfl) u1 rfl⟩
  rw [wrongV, if_neg hc]
  exact u1.same
def Taken2 (w w' : World) (R m n c : Nat) (A : Option Addr) : Prop := ∃ A', ((c = m ∧ A' = A) ∨ A' = A.map (·.add m)) ∧ w' = w.setCell ⟨R, 0, none⟩ (.slice A' (n - m) (c - m))
set_option maxRecDepth 100000 in
set_option maxHeartbeats 400000 in
theorem take_fine2 (R m n c : Nat) (A : Option Addr) (w : World) (hR : RdrAt w R (.slice A n c) .nilIface) (hm : 1 ≤ m) (hmn : m ≤ n) (hnc : n ≤ c) :
    Calls Tryd.prog 79 #[.pointer (some ⟨R, 0, none⟩), .int .i64 m] w fun e w' => e = .returned (.tuple #[.slice A m m, .bool true]) ∧ Taken2 w w' R m n c A := by
  have c0 : w.cell? ⟨R, 0, none⟩ = some (.slice A n c) := blk_cell hR rfl
  have c1 : w.cell? ⟨R, 1, none⟩ = some .nilIface := blk_cell hR rfl
  have f0 : w.frozen? ⟨R, 0, none⟩ = false := blk_frozen 0 hR
  have HR := bx hR
  have hm0 : ¬ ((m : Int) < 1) := by omega
  have hmn' : ¬ ((n : Int) < m) := by omega
  clear hR
  go_enter Tryd.func79, Tryd.ntmps79
  go_wp2_with go_in
  · go_ret2
    exact ⟨rfl, A, .inl ⟨rfl, rfl⟩, by rw [Nat.sub_self]⟩
  · go_ret2
    exact ⟨rfl, _, .inr rfl, rfl⟩
def TakeOut (lo : Nat) (w : World) (R : Nat) (bs : List Int) (bad m : Int) (e : Ending) (w' : World) : Prop := ∃ A c, e = .returned (.tuple #[.slice A (rOut bs bad m).length c, .bool (rOk bs bad m)]) ∧ RdB w' A (rOut bs bad m).length (rOut bs bad m) ∧ (A = none → c = 0) ∧ (rOut bs bad m).length ≤ c ∧ (∀ a, A = some a → a.block ≠ R) ∧ RdrL lo w' R (rRest bs bad m) (rBad bs bad m) ∧ OnlyR R w w'
set_option maxRecDepth 100000 in
set_option maxHeartbeats 1000000 in
theorem rtake_any (w : World) (R : Nat) (bs : List Int) (bad m : Int) (h : RdrL lo w R bs bad) (hbig : bs.length ≤ 1152921504606846976) :
    Calls Tryd.prog 79 #[.pointer (some ⟨R, 0, none⟩), .int .i64 m] w fun e w' => TakeOut lo w R bs bad m e w' := by
  obtain ⟨A, c, hR, hrd, hnc, hnil, hne⟩ := h
  have c0 : w.cell? ⟨R, 0, none⟩ = some (.slice A bs.length c) := blk_cell hR rfl
  have c1 : w.cell? ⟨R, 1, none⟩ = some (wrongV bad) := blk_cell hR rfl
  have f0 : w.frozen? ⟨R, 0, none⟩ = false := blk_frozen 0 hR
  have f1 : w.frozen? ⟨R, 1, none⟩ = false := blk_frozen 1 hR
  have HR := bx hR; have HRD := bx hrd; have HNC := bx hnc; have HNIL := bx hnil; have HNE := bx hne
  clear hR hrd hnil hne
  by_cases hs : rShut bad m
  · have HO : Bx (rOut bs bad m = []) := ⟨by rw [rOut, if_pos hs]⟩
    have HQ : Bx (rRest bs bad m = bs) := ⟨by rw [rRest, if_pos hs]⟩
    have HW : Bx (rBad bs bad m = bad) := ⟨by rw [rBad, if_pos hs]⟩
    have HD : Bx (rOk bs bad m = false) := ⟨by simp [rOk, hs]⟩
    by_cases h1 : m < 1
    · clear hs
      go_enter Tryd.func79, Tryd.ntmps79
      go_wp2_with go_in
      go_ret2
      unfold TakeOut
      rw [HO.out, HQ.out, HW.out, HD.out]
      exact ⟨none, 0, rfl, ⟨rfl, fun h => absurd h (by decide)⟩, fun _ => rfl, Nat.le_refl _, (fun a ha => by cases ha), ⟨A, c, HR.out, HRD.out, HNC.out, HNIL.out, HNE.out⟩, Only.refl _ _⟩
    · have h2 : bad ≠ 0 := hs.resolve_left h1
      have e1 : wrongV bad = .iface 44 (.int .i64 bad) := by rw [wrongV, if_neg h2]
      rw [e1] at c1
      clear hs h2 e1
      go_enter Tryd.func79, Tryd.ntmps79
      go_wp2_with go_in
      go_ret2
      unfold TakeOut
      rw [HO.out, HQ.out, HW.out, HD.out]
      exact ⟨none, 0, rfl, ⟨rfl, fun h => absurd h (by decide)⟩, fun _ => rfl, Nat.le_refl _, (fun a ha => by cases ha), ⟨A, c, HR.out, HRD.out, HNC.out, HNIL.out, HNE.out⟩, Only.refl _ _⟩
  · have h1 : ¬ m < 1 := fun h => hs (.inl h)
    have h2 : bad = 0 := Classical.byContradiction fun h => hs (.inr h)
    subst h2
    have e1 : wrongV 0 = .nilIface := rfl
    rw [e1] at c1
    by_cases hl : (bs.length : Int) < m
    · have HO : Bx (rOut bs 0 m = []) := ⟨by rw [rOut, if_neg hs, if_pos hl]⟩
      have HQ : Bx (rRest bs 0 m = []) := ⟨by rw [rRest, if_neg hs, if_pos hl]⟩
      have HW : Bx (rBad bs 0 m = 10) := ⟨by rw [rBad, if_neg hs, if_pos hl]⟩
      have HD : Bx (rOk bs 0 m = false) := ⟨by simp [rOk, hl]⟩
      clear hs e1
      go_enter Tryd.func79, Tryd.ntmps79
      go_wp2_with (first
        | (go_at_call 82; refine (rfail_any (lo := lo) w R _ _ 10 HR.out (by decide)).mono ?_; rintro e w1 ⟨rfl, hR1, ho1⟩)
        | go_in)
      go_ret2
      unfold TakeOut
      rw [HO.out, HQ.out, HW.out, HD.out]
      exact ⟨none, 0, rfl, ⟨rfl, fun h => absurd h (by decide)⟩, fun _ => rfl, Nat.le_refl _, (fun a ha => by cases ha), hR1, ho1⟩
    · obtain ⟨k, rfl⟩ : ∃ k : Nat, m = k := ⟨m.toNat, by omega⟩
      have HO : Bx (rOut bs 0 (k : Int) = bs.take k) := ⟨by rw [rOut, if_neg hs, if_neg hl]; rfl⟩
      have HQ : Bx (rRest bs 0 (k : Int) = bs.drop k) := ⟨by rw [rRest, if_neg hs, if_neg hl]; rfl⟩
      have HW : Bx (rBad bs 0 (k : Int) = 0) := ⟨by rw [rBad, if_neg hs, if_neg hl]⟩
      have HD : Bx (rOk bs 0 (k : Int) = true) := ⟨by simp only [rOk, decide_eq_false hs, decide_eq_false hl]; rfl⟩
      have HL : Bx ((bs.take k).length = k) := ⟨by rw [List.length_take]; omega⟩
      have hkn : k ≤ bs.length := by omega
      have hk1 : 1 ≤ k := by omega
      clear hs e1
      refine (take_fine2 R k bs.length c A w HR.out hk1 hkn hnc).mono ?_
      rintro e w' ⟨rfl, A', hA', rfl⟩
      unfold TakeOut
      rw [HO.out, HQ.out, HW.out, HD.out, HL.out]
      obtain ⟨b, o, rfl, hb, hcell⟩ := HRD.out.2 (by omega)
      have hne := HNE.out _ rfl
      refine ⟨_, k, rfl, rdB_set (rdB_take k HRD.out hkn) (fun a ha => Nat.ne_of_lt (HNE.out a ha).2), (fun h => by cases h), Nat.le_refl _, (fun a ha => Nat.ne_of_lt (HNE.out a ha).2), ?_, onlyR_set _⟩
      refine ⟨A', c - k, ?_, ?_, by rw [List.length_drop]; omega, ?_, ?_⟩
      · rw [List.length_drop]; exact (upd_cell HR.out (j := 0) _).same
      · rcases hA' with ⟨h, h'⟩ | h
        · have : bs.length - k = 0 := by omega
          rw [List.length_drop, this, List.drop_of_length_le (by omega)]
          exact ⟨rfl, fun h => absurd h (by decide)⟩
        · subst h
          have := rdB_sub k (bs.length - k) HRD.out (by omega)
          rw [List.take_of_length_le (by rw [List.length_drop]; omega)] at this
          rw [List.length_drop]
          have e : (Option.map (fun x => Addr.add x k) (some (⟨b, o, none⟩ : Addr))) = some ⟨b, o + k, none⟩ := by rw [Option.map_some, addr_add]
          rw [e]
          exact rdB_set this (fun a ha => by cases ha; exact Nat.ne_of_lt hne.2)
      · rcases hA' with ⟨h, h'⟩ | h
        · intro _; omega
        · intro h0; rw [h] at h0; cases h0
      · intro a ha
        rcases hA' with ⟨h, h'⟩ | h
        · rw [h'] at ha; cases ha; exact hne
        · rw [h, Option.map_some, addr_add] at ha; cases ha; exact hne
/-- What Raw hands back is its caller's own. -/
theorem OnlyR.below {R : Nat} {w w' : World} (h : OnlyR R w w') {B : Nat} (hB : B ≤ w.heap.size) (hR : B ≤ R) : Below B w w' := Only.below h hB (fun k hk => hk ▸ hR)
set_option maxRecDepth 100000 in
set_option maxHeartbeats 400000 in
theorem raw_any (w : World) (R : Nat) (bs : List Int) (bad m : Int) (h : RdrL lo w R bs bad) (hbig : bs.length ≤ 35184372088832) :
    Calls Tryd.prog 78 #[.pointer (some ⟨R, 0, none⟩), .int .i64 m] w fun e w' => ∃ v, e = .returned v ∧ OwB w' w.heap.size v (rOut bs bad m) ∧ RdrL lo w' R (rRest bs bad m) (rBad bs bad m) ∧ OnlyR R w w' := by
  have HC := bx (rtake_any w R bs bad m h (by omega))
  have HL := bx (rOut_le bs bad m)
  clear h
  go_enter Tryd.func78, Tryd.ntmps78
  go_wp2_with fail
  refine HC.out.mono ?_
  rintro e w1 ⟨A, c, rfl, hrd, hnil, hle, hne, hR, ho⟩
  have R1 := bx hrd; have N1 := bx hnil; have K1 := bx hR; have O1 := bx ho
  clear hrd hnil hle hne hR ho
  generalize rOk bs bad m = bb at *
  go_wp2_with fail
  refine (clone_any A _ c _ w1 R1.out N1.out (by have := HL.out; omega)).mono ?_
  rintro e w2 ⟨v, rfl, hv, hb⟩
  have V2 := bx (hv.base_le O1.out.size); have K2 := bx (K1.out.kept hb); have O2 : Bx (OnlyR R w w2) := ⟨Only.trans O1.out (only_of_below hb)⟩
  clear hv hb
  go_wp2_with fail
  go_ret
  exact ⟨v, rfl, V2.out, K2.out, O2.out⟩
end Go.Proofs.YthnommoljikaiaaDoor
