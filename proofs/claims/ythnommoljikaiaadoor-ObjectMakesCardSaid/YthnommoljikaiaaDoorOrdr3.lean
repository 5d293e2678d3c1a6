/- A Reader of package wire, whatever became of it: Num, Wrong, Sized; New. -/
import Derived.Test.YthnommoljikaiaaDoorOrdr2
import Derived.Test.YthnommoljikaiaaDoorOerr
set_option linter.unusedSimpArgs false
set_option linter.unusedVariables false
namespace Go.Proofs.YthnommoljikaiaaDoor
open Go.RowKit
variable {lo : Nat}

theorem rOut_m (bs : List Int) (bad : Int) (m : Nat) : (rOut bs bad m).length ≤ m := by
  unfold rOut
  split
  · exact Nat.zero_le _
  · split
    · exact Nat.zero_le _
    · rw [List.length_take, Int.toNat_natCast]; exact Nat.min_le_left _ _
theorem num_lt (l : List Int) (h : IsB l) (k : Nat) (hk : l.length ≤ k) : 0 ≤ num l ∧ num l < 256 ^ k := by
  have := num_bounds l 0 0 h (Int.le_refl _) (by decide)
  refine ⟨this.1, Int.lt_of_lt_of_le this.2 ?_⟩
  rw [Nat.zero_add]
  have h2 : ((256 ^ l.length : Nat) : Int) ≤ ((256 ^ k : Nat) : Int) := Int.ofNat_le.2 (Nat.pow_le_pow_right (by decide) hk)
  rwa [Int.natCast_pow, Int.natCast_pow] at h2
set_option maxRecDepth 100000 in
set_option maxHeartbeats 1000000 in
theorem rnum_any (w : World) (R : Nat) (bs : List Int) (bad : Int) (m : Nat) (h : RdrL lo w R bs bad) (hB : IsB bs) (h1 : 1 ≤ m) (h8 : m ≤ 8) (hbig : bs.length ≤ 1152921504606846976) :
    Calls Tryd.prog 59 #[.pointer (some ⟨R, 0, none⟩), .int .i64 m] w fun e w' => e = .returned (.int .u64 (num (rOut bs bad m))) ∧ RdrL lo w' R (rRest bs bad m) (rBad bs bad m) ∧ OnlyR R w w' := by
  have HC := bx (rtake_any w R bs bad m h hbig)
  have hl := rOut_m bs bad m
  have HOB := bx (rOut_isB hB bad m)
  have hmin : min (m : Int) 8 = m := by omega
  unfold TakeOut at HC
  generalize rOut bs bad m = os at *
  generalize rRest bs bad m = rs at *
  generalize rBad bs bad m = rb at *
  generalize rOk bs bad m = bb at *
  clear h
  go_enter Tryd.func59, Tryd.ntmps59
  go_wp2_with fail
  refine HC.out.mono ?_
  rintro e w1 ⟨A, c, rfl, hrd, hnil, hle, hne, hR, ho⟩
  have R1 := bx hrd; have K1 := bx hR; have O1 := bx ho
  clear hrd hnil hle hne hR ho HC
  go_wp2_with fail
  go_loopw [7, 19] (fun v i wr => ∃ j : Nat, j ≤ os.length ∧ v = .int .u64 (num (os.take j)) ∧ i = .int .i64 j ∧ w1 = wr) (fun _ i _ => os.length - (intOf i).toNat)
  case atStart => exact ⟨0, by omega, rfl, rfl, rfl⟩
  case round =>
    obtain ⟨j, hj, rfl, rfl, rfl⟩ := hrel
    by_cases hlt : j < os.length
    · obtain ⟨b, o, rfl, hb, hcells⟩ := R1.out.2 (by omega)
      have hcj := hcells j hlt
      have hbd := num_lt (os.take j) (isB_take HOB.out j) 7 (by rw [List.length_take]; omega)
      have hbj := HOB.out j
      have hstep : Bx (num (os.take (j + 1)) = num (os.take j) * 256 + os.getD j 0) := ⟨by
        rw [List.take_add_one, List.getElem?_eq_getElem hlt]
        show num (os.take j ++ [os[j]]) = _
        rw [num_append, List.getD_eq_getElem?_getD, List.getElem?_eq_getElem hlt]
        rfl⟩
      clear hcells
      generalize os.getD j 0 = cj at *
      generalize num (os.take j) = nu at *
      have hn2 : nu < 72057594037927936 := hbd.2
      have hn1 : 0 ≤ nu := hbd.1
      have hor := or_byte (x := nu) (c := cj) hn1 hn2 hbj.1 hbj.2
      obtain ⟨hb1, hb2⟩ := hbj
      clear hbd
      go_wp2_with fail
      exact ⟨⟨j + 1, by omega, by rw [hstep.out], by go_num, trivial⟩, by simp [intOf]; omega⟩
    · obtain rfl : j = os.length := by omega
      have HT : Bx (os.take os.length = os) := ⟨List.take_of_length_le (Nat.le_refl _)⟩
      rw [HT.out]
      go_wp2_with fail
      go_ret
      exact ⟨rfl, K1.out, O1.out⟩
/-- What Wrong tells. -/
def rWrong (bad : Int) : Int := if bad = 0 then 0 else if bad = 3 then 3 else 10
set_option maxRecDepth 100000 in
theorem rwrong_any (w : World) (R : Nat) (bs : List Int) (bad : Int) (h : RdrL lo w R bs bad) :
    Calls Tryd.prog 60 #[.pointer (some ⟨R, 0, none⟩)] w fun e w' => e = .returned (.int .i64 (rWrong bad)) ∧ w = w' := by
  obtain ⟨A, c, hR, _⟩ := h
  have c1 : w.cell? ⟨R, 1, none⟩ = some (wrongV bad) := blk_cell hR rfl
  clear hR
  by_cases h0 : bad = 0
  · subst h0
    have e1 : wrongV 0 = .nilIface := rfl
    rw [e1] at c1
    go_enter Tryd.func60, Tryd.ntmps60
    go_wp2_with go_in
    go_ret
    exact ⟨rfl, rfl⟩
  · have e1 : wrongV bad = .iface 44 (.int .i64 bad) := by rw [wrongV, if_neg h0]
    have HW : Bx (rWrong bad = if bad = 3 then 3 else 10) := ⟨by rw [rWrong, if_neg h0]⟩
    rw [e1] at c1
    by_cases h3 : bad = 3
    · have H3 : (bad == 3) = true := by simp [h3]
      have HV : Bx (rWrong bad = 3) := ⟨by rw [HW.out, if_pos h3]⟩
      clear h0 e1 HW h3
      rw [HV.out]
      go_enter Tryd.func60, Tryd.ntmps60
      go_wp2_with (first
        | (go_at_call 81; refine (is_int bad 3 _).mono ?_; rintro e w1 ⟨rfl, rfl⟩)
        | go_in)
      go_ret
      exact ⟨rfl, rfl⟩
    · have H3 : (bad == 3) = false := by simp [h3]
      have HV : Bx (rWrong bad = 10) := ⟨by rw [HW.out, if_neg h3]⟩
      clear h0 e1 HW h3
      rw [HV.out]
      go_enter Tryd.func60, Tryd.ntmps60
      go_wp2_with (first
        | (go_at_call 81; refine (is_int bad 3 _).mono ?_; rintro e w1 ⟨rfl, rfl⟩)
        | go_in)
      go_ret
      exact ⟨rfl, rfl⟩
/-- What Sized does. -/
def sOut (bs : List Int) (bad : Int) : List Int := if 65536 < num (rOut bs bad 4) then [] else rOut (rRest bs bad 4) (rBad bs bad 4) (num (rOut bs bad 4))
def sRest (bs : List Int) (bad : Int) : List Int := if 65536 < num (rOut bs bad 4) then [] else rRest (rRest bs bad 4) (rBad bs bad 4) (num (rOut bs bad 4))
def sBad (bs : List Int) (bad : Int) : Int := if 65536 < num (rOut bs bad 4) then 3 else rBad (rRest bs bad 4) (rBad bs bad 4) (num (rOut bs bad 4))
set_option maxRecDepth 100000 in
set_option maxHeartbeats 400000 in
theorem rsz_any (w : World) (R : Nat) (bs : List Int) (bad : Int) (h : RdrL lo w R bs bad) (hB : IsB bs) (hbig : bs.length ≤ 35184372088832) :
    Calls Tryd.prog 61 #[.pointer (some ⟨R, 0, none⟩)] w fun e w' => ∃ v, e = .returned v ∧ OwB w' w.heap.size v (sOut bs bad) ∧ RdrL lo w' R (sRest bs bad) (sBad bs bad) ∧ OnlyR R w w' := by
  have HC := bx (rnum_any w R bs bad 4 h hB (by decide) (by decide) (by omega))
  have hn := num_lt (rOut bs bad 4) (rOut_isB hB bad 4) 4 (rOut_m bs bad 4)
  have hn2 : num (rOut bs bad 4) < 4294967296 := hn.2
  have hn1 : 0 ≤ num (rOut bs bad 4) := hn.1
  have HL := bx (rRest_le bs bad 4)
  clear hn h
  by_cases hs : 65536 < num (rOut bs bad 4)
  · have H1 : Bx (sOut bs bad = []) := ⟨by rw [sOut, if_pos hs]⟩
    have H2 : Bx (sRest bs bad = []) := ⟨by rw [sRest, if_pos hs]⟩
    have H3 : Bx (sBad bs bad = 3) := ⟨by rw [sBad, if_pos hs]⟩
    rw [H1.out, H2.out, H3.out]
    have HC2 := HC.out
    rw [show ((4 : Nat) : Int) = 4 from rfl] at HC2
    generalize num (rOut bs bad 4) = q at *
    go_enter Tryd.func61, Tryd.ntmps61
    go_wp2_with fail
    refine HC2.mono ?_
    rintro e w1 ⟨rfl, hR, ho⟩
    obtain ⟨A1, c1, hR1, _⟩ := hR
    have K1 := bx hR1; have O1 := bx ho
    clear hR1 ho HC2
    go_wp2_with fail
    refine (rfail_any (lo := lo) w1 R _ _ 3 K1.out (by decide)).mono ?_
    rintro e w2 ⟨rfl, hR2, ho2⟩
    have K2 := bx hR2; have O2 : Bx (OnlyR R w w2) := ⟨Only.trans O1.out ho2⟩
    clear hR2 ho2
    go_wp2_with fail
    go_ret
    exact ⟨_, rfl, OwB.nil _ _, K2.out, O2.out⟩
  · have H1 : Bx (sOut bs bad = rOut (rRest bs bad 4) (rBad bs bad 4) (num (rOut bs bad 4))) := ⟨by rw [sOut, if_neg hs]⟩
    have H2 : Bx (sRest bs bad = rRest (rRest bs bad 4) (rBad bs bad 4) (num (rOut bs bad 4))) := ⟨by rw [sRest, if_neg hs]⟩
    have H3 : Bx (sBad bs bad = rBad (rRest bs bad 4) (rBad bs bad 4) (num (rOut bs bad 4))) := ⟨by rw [sBad, if_neg hs]⟩
    rw [H1.out, H2.out, H3.out]
    have HC2 := HC.out
    rw [show ((4 : Nat) : Int) = 4 from rfl] at HC2
    clear HC H1 H2 H3
    generalize num (rOut bs bad 4) = q at *
    have hlen : (rRest bs bad 4).length ≤ 35184372088832 := by have := HL.out; omega
    have HLEN := bx hlen
    clear hlen HL
    generalize rRest bs bad 4 = rs at *
    generalize rBad bs bad 4 = rb at *
    go_enter Tryd.func61, Tryd.ntmps61
    go_wp2_with fail
    refine HC2.mono ?_
    rintro e w1 ⟨rfl, hR, ho⟩
    have K1 := bx hR; have O1 := bx ho
    clear hR ho HC2
    go_wp2_with fail
    refine (raw_any w1 R rs rb q K1.out HLEN.out).mono ?_
    rintro e w2 ⟨v, rfl, hv, hR2, ho2⟩
    have V2 := bx (hv.base_le O1.out.size); have K2 := bx hR2; have O2 : Bx (OnlyR R w w2) := ⟨Only.trans O1.out ho2⟩
    clear hv hR2 ho2
    go_wp2_with fail
    go_ret
    exact ⟨v, rfl, V2.out, K2.out, O2.out⟩
theorem rnewL_any (A : Option Addr) (n cap : Nat) (bs : List Int) (w : World) (hrd : RdB w A n bs) (hnil : A = none → cap = 0) (hbig : n ≤ 35184372088832) :
    Calls Tryd.prog 57 #[.slice A n cap] w fun e w' => ∃ R, e = .returned (.pointer (some ⟨R, 0, none⟩)) ∧ RdrL w.heap.size w' R bs 0 ∧ w.heap.size ≤ R ∧ Below w.heap.size w w' := by
  refine (rnew_any A n cap bs w hrd hnil hbig).mono ?_
  rintro e w' ⟨R, A1, c1, rfl, h1, h2, h3, h4, h5, h6, h7⟩
  have hl := hrd.1
  subst hl
  exact ⟨R, rfl, ⟨A1, c1, h1, h2, h3, h4, h5⟩, h6, h7⟩
theorem rnewR_any (A : Option Addr) (n cap : Nat) (bs : List Int) (w : World) (hrd : RdB w A n bs) (hnil : A = none → cap = 0) (hbig : n ≤ 35184372088832) :
    Calls Tryd.prog 57 #[.slice A n cap] w fun e w' => ∃ R, e = .returned (.pointer (some ⟨R, 0, none⟩)) ∧ Rdr w' R bs 0 ∧ w.heap.size ≤ R ∧ Below w.heap.size w w' := by
  refine (rnewL_any A n cap bs w hrd hnil hbig).mono ?_
  rintro e w' ⟨R, rfl, h1, h2, h3⟩
  exact ⟨R, rfl, h1.base, h2, h3⟩
end Go.Proofs.YthnommoljikaiaaDoor
