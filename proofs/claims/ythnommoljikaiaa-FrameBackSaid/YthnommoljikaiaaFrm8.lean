/- The law FrameApart returns true, whatever the two runs of bytes and the two kinds. -/
import Derived.Test.YthnommoljikaiaaFrm7
set_option linter.unusedSimpArgs false
set_option linter.unusedVariables false
namespace Go.Proofs.Ythnommoljikaiaa
open Go.RowKit

theorem and_le (x : Int) (m : Nat) (hm : m < 4611686018427387904) : 0 ≤ bits .and .i64 x m ∧ bits .and .i64 x m ≤ m := by
  have h2 : (BitVec.ofInt 64 (m : Int)).toNat = m := by
    rw [BitVec.ofInt_natCast, BitVec.toNat_ofNat]; exact Nat.mod_eq_of_lt (by omega)
  have hx : (BitVec.ofInt 64 x).toNat &&& m ≤ m := Nat.and_le_right
  have e : bits .and .i64 x m = IntKind.i64.wrap (((BitVec.ofInt 64 x).toNat &&& m : Nat) : Int) := by
    show IntKind.i64.wrap ((BitVec.ofInt 64 x &&& BitVec.ofInt 64 (m : Int)).toNat : Int) = _
    rw [BitVec.toNat_and, h2]
  rw [e, IntWalk.i64_in _ (by omega)]
  omega

set_option maxRecDepth 100000 in
set_option maxHeartbeats 2000000 in
theorem apart_any (s t : Sl) (k0 k1 : Int) (w : World) (hs : s.Ok w) (ht : t.Ok w) (hns : s.A = none → s.cap = 0) (hnt : t.A = none → t.cap = 0) :
    Calls Try.prog 14 #[s.val, t.val, .agg #[.int .i64 k0, .int .i64 k1]] w fun e w' => e = .returned (.bool true) ∧ Below w.heap.size w w' := by
  obtain ⟨A, n, cap, bs⟩ := s
  obtain ⟨A2, n2, cap2, xs⟩ := t
  obtain ⟨hr1, hB1, hc1⟩ := hs
  obtain ⟨hr2, hB2, hc2⟩ := ht
  dsimp only at hr1 hB1 hc1 hr2 hB2 hc2 hns hnt
  show Calls Try.prog 14 #[.slice A n cap, .slice A2 n2 cap2, .agg #[.int .i64 k0, .int .i64 k1]] w _
  have HR1 := bx hr1; have HB1 := bx hB1; have HR2 := bx hr2; have HB2 := bx hB2; have HN1 := bx hns; have HN2 := bx hnt
  have B0 := bx ((Below.refl w.heap.size w).alloc (Nat.le_refl _) (.cells #[.int .i64 k0, .int .i64 k1] 108))
  clear hr1 hB1 hr2 hB2 hns hnt
  by_cases hlong : 500 < n ∨ 500 < n2
  · by_cases h1 : 500 < n
    · have h1' : (500 : Int) < n := by omega
      go_enter Try.func14, Try.ntmps14
      go_wp2_with fail
      go_ret
      exact ⟨rfl, B0.out⟩
    · have h1' : ¬ (500 : Int) < n := by omega
      have h2' : (500 : Int) < n2 := by omega
      go_enter Try.func14, Try.ntmps14
      go_wp2_with fail
      go_ret
      exact ⟨rfl, B0.out⟩
  · have h1 : ¬ (500 : Int) < n := by omega
    have h2 : ¬ (500 : Int) < n2 := by omega
    have HN : Bx (n ≤ 500 ∧ n2 ≤ 500) := ⟨by omega⟩
    clear hlong
    go_enter Try.func14, Try.ntmps14
    go_wp2_with fail
    go_quiet (fail)
    have B1 := bx (drewN_below B0.out nq)
    generalize (w.alloc (.cells #[.int .i64 k0, .int .i64 k1] 108)).drewN nq = w1 at *
    obtain ⟨i, hi, hi1, hi2⟩ : ∃ i, wrap64 (1 + bits .and .i64 k0 7) = i ∧ 1 ≤ i ∧ i ≤ 8 := by
      have : 0 ≤ bits .and .i64 k0 7 ∧ bits .and .i64 k0 7 ≤ 7 := and_le k0 7 (by decide)
      exact ⟨_, IntWalk.wrap64_in _ (by omega), by omega, by omega⟩
    obtain ⟨j, hj, hj1, hj2⟩ : ∃ j, wrap64 (1 + bits .and .i64 k1 7) = j ∧ 1 ≤ j ∧ j ≤ 8 := by
      have : 0 ≤ bits .and .i64 k1 7 ∧ bits .and .i64 k1 7 ≤ 7 := and_le k1 7 (by decide)
      exact ⟨_, IntWalk.wrap64_in _ (by omega), by omega, by omega⟩
    rw [hi, hj]
    clear hi hj
    have HFI := bx (fun (h1 : bs.length ≤ 65536) (h2 : xs.length ≤ 65536) => frameOf_inj (k1 := i) (k2 := j) (a := bs) (b := xs) hi1 hj1 h1 h2)
    have HLb := bx HR1.out.1; have HLx := bx HR2.out.1
    have HP1 := bx (fput_any i A n cap bs w1 ⟨hi1, by omega⟩ (HR1.out.below B1.out) HN1.out HB1.out (by have := HN.out.1; omega))
    have HP2 := bx (fun w' (hb : Below w1.heap.size w1 w') => fput_any j A2 n2 cap2 xs w' ⟨hj1, by omega⟩ ((HR2.out.below B1.out).below hb) HN2.out HB2.out (by have := HN.out.2; omega))
    have HO1 := bx (openOf_frame (kind := i) (bs := bs) hi1 (by rw [HLb.out]; have := HN.out.1; omega))
    have HXB : Bx (IsB (frameOf i bs)) := ⟨isB_append (frameHead_isB ⟨by omega, by omega⟩ HB1.out) (isB_take (shaOf_isB _) 4)⟩
    have HYB : Bx (IsB (frameOf j xs)) := ⟨isB_append (frameHead_isB ⟨by omega, by omega⟩ HB2.out) (isB_take (shaOf_isB _) 4)⟩
    have HXL : Bx ((frameOf i bs).length = n + 12) := ⟨by rw [frameOf_length, HLb.out]⟩
    have HYL : Bx ((frameOf j xs).length = n2 + 12) := ⟨by rw [frameOf_length, HLx.out]⟩
    have HXY : Bx (i = j → bs = xs → frameOf i bs = frameOf j xs) := ⟨fun h1 h2 => by rw [h1, h2]⟩
    generalize frameOf i bs = X at *
    generalize frameOf j xs = Y at *
    go_wp2_with fail
    refine HP1.out.mono ?_
    rintro e w2 ⟨r, rfl, ho, hb⟩
    obtain ⟨A3, c3, rfl, hr3, hc3, hn3⟩ := ho.rdn HXL.out
    have HR3 := bx hr3; have HN3 := bx hn3; have B2 := bx (B1.out.trans (hb.mono B1.out.size))
    have HP2' := bx (HP2.out _ hb)
    clear ho hb hr3 hn3 HP1 HP2
    go_wp2_with fail
    refine HP2'.out.mono ?_
    rintro e w3 ⟨r, rfl, ho, hb⟩
    obtain ⟨A4, c4, rfl, hr4, hc4, hn4⟩ := ho.rdn HYL.out
    have HR4 := bx hr4; have HN4 := bx hn4; have B3 := bx (B2.out.trans (hb.mono B2.out.size))
    have HR3' := bx (HR3.out.below hb)
    clear ho hb hr4 hn4 HP2' HR3
    have st1 := str_of (HR1.out.below B3.out) cap
    have st2 := str_of (HR2.out.below B3.out) cap2
    have st3 := str_of HR3'.out c3
    have st4 := str_of HR4.out c4
    have HE1 := bx (str_dec HB1.out HB2.out)
    have HE2 := bx (str_dec HXB.out HYB.out)
    generalize hsa : strOfNums bs = sa at *
    generalize strOfNums xs = sb at *
    generalize strOfNums X = sx at *
    generalize strOfNums Y = sy at *
    have HSA := bx hsa
    clear hsa
    have HC : ∃ p q r : Bool, (i == j) = p ∧ (sa.toList == sb.toList) = q ∧ (sx.toList == sy.toList) = r ∧ r = (p && q) := by
      refine ⟨_, _, _, rfl, rfl, rfl, ?_⟩
      rw [HE1.out, HE2.out]
      by_cases h1 : i = j
      · by_cases h2 : bs = xs
        · simp [h1, h2, HXY.out h1 h2]
        · have : ¬ X = Y := fun h => h2 (HFI.out (by have := HN.out.1; have := HLb.out; omega) (by have := HN.out.2; have := HLx.out; omega) h).2
          simp [h1, h2, this]
      · have : ¬ X = Y := fun h => h1 (HFI.out (by have := HN.out.1; have := HLb.out; omega) (by have := HN.out.2; have := HLx.out; omega) h).1
        simp [h1, this]
    obtain ⟨p, q, r, hp, hq, hr, hpq⟩ := HC
    cases p <;> cases q <;> (simp only [Bool.and_true, Bool.and_false] at hpq; subst hpq)
    all_goals
      go_wp2_with fail
      refine (open_any A3 (n + 12) c3 X _ HR3'.out HN3.out hc3 HXB.out (by have := HN.out.1; omega)).mono ?_
      rintro e w4 ⟨v, rfl, hv, hb⟩
      rw [HO1.out] at hv ⊢
      obtain ⟨A5, c5, rfl, hr5, hc5, hn5⟩ := hv
      have B4 := bx (B3.out.trans (hb.mono B3.out.size))
      have st5 := str_of hr5 c5
      have st6 := str_of (HR1.out.below B4.out) cap
      rw [HLb.out] at st5 ⊢
      rw [HSA.out] at st5 st6
      clear hr5 hn5 hb st1 st2 st3 st4
      go_wp2_with fail
      refine (one19_any _).mono ?_
      rintro e w5 ⟨rfl, hb⟩
      have B5 := bx (B4.out.trans (hb.mono B4.out.size))
      clear hb
      go_wp2_with fail
      go_ret
      exact ⟨rfl, B5.out⟩
end Go.Proofs.Ythnommoljikaiaa
