/- The law FramePuts returns true. -/
import Derived.Test.YthnommoljikaiaaRef4
import Derived.Test.YthnommoljikaiaaOpenB
import Derived.Deep.CutRange
set_option linter.unusedSimpArgs false
set_option linter.unusedVariables false
namespace Go.Proofs.Ythnommoljikaiaa
open Go.RowKit

theorem fputs_any (kind : Int) (A : Option Addr) (n cap : Nat) (bs : List Int) (w : World) (hrd : RdB w A n bs) (hnil : A = none → cap = 0) (hB : IsB bs) (hbig : n ≤ 65536) :
    Calls Try.prog 48 #[.int .i64 kind, .slice A n cap] w fun e w' => ∃ A3 c3, e = .returned (.tuple #[.slice A3 (rput19 kind bs).1.length c3, .int .i64 (rput19 kind bs).2]) ∧ RdB w' A3 (rput19 kind bs).1.length (rput19 kind bs).1 ∧ Below w.heap.size w w' := by
  by_cases hk : kind < 1 ∨ 255 < kind
  · rw [rput19, if_pos hk]
    refine (fput_bad kind A n cap w hk).mono ?_
    rintro e w' ⟨rfl, rfl⟩
    exact ⟨none, 0, rfl, ⟨rfl, fun h => absurd h (by decide)⟩, Below.refl _ _⟩
  · rw [rput19, if_neg hk, if_neg (by rw [hrd.1]; omega)]
    refine (fput_any kind A n cap bs w (by omega) hrd hnil hB hbig).mono ?_
    rintro e w' ⟨r, rfl, ho, hb⟩
    obtain ⟨A3, c3, rfl, hr3, _, _⟩ := ho.rdn rfl
    exact ⟨A3, c3, rfl, hr3, hb⟩
set_option maxRecDepth 100000 in
set_option maxHeartbeats 1000000 in
theorem fpuLaw_any (kind : Int) (s : Sl) (w : World) (hs : s.Full w) :
    Calls Try.prog 12 #[.int .i64 kind, s.val] w fun e w' => e = .returned (.bool true) ∧ Below w.heap.size w w' := by
  obtain ⟨A, n, cap, bs⟩ := s
  obtain ⟨⟨hr, hB, hc⟩, hn, hm⟩ := hs
  dsimp only at hr hB hc hn hm
  show Calls Try.prog 12 #[.int .i64 kind, .slice A n cap] w _
  have HR := bx hr; have HB := bx hB; have HN := bx hn
  clear hr hB hn
  unfold maxLen at hm
  go_enter Try.func12, Try.ntmps12
  go_upto_if 11 with fail
  go_cut [1] from 9 to 38 (fun s1 wc => ∃ (m : Nat) (xs : List Int), s1 = .slice A m cap ∧ RdB w A m xs ∧ IsB xs ∧ m ≤ 3000 ∧ w = wc)
  case first =>
    by_cases h : (3000 : Int) < n
    · have sl := fun w => sl_h Try.underlying22 Try.sizeOf5 A n cap 3000 (by omega) .i64 3000 rfl w
      go_wp2_with fail
      go_meet
      case rel => exact ⟨3000, bs.take 3000, rfl, rdB_take 3000 HR.out (by omega), isB_take HB.out 3000, Nat.le_refl _, rfl⟩
    · go_wp2_with fail
      go_meet
      case rel => exact ⟨n, bs, rfl, HR.out, HB.out, by omega, rfl⟩
  case rest =>
    obtain ⟨m, xs, rfl, hrd, hxb, hm3, rfl⟩ := hcut
    have HX := bx hrd; have HXB := bx hxb
    have HXL := bx hrd.1
    clear hrd hxb HR HB
    have HP := bx (fputs_any kind A m cap xs w HX.out HN.out HXB.out (by omega))
    have HQ := bx (rput19_any kind xs HXB.out (by rw [HXL.out]; omega))
    obtain ⟨ys, er, hy⟩ : ∃ ys er, rput19 kind xs = (ys, er) := ⟨_, _, rfl⟩
    rw [hy] at HP HQ
    have HPX := HP.out
    dsimp only at HPX
    clear hy HP
    go_wp2_with fail
    refine HPX.mono ?_
    rintro e w1 ⟨A3, c3, rfl, hr3, hb1⟩
    have R3 := bx hr3; have B1 := bx hb1
    have cv1 := str_of (HX.out.below hb1) cap
    clear hr3 hb1
    generalize hsx : strOfNums xs = sx at *
    go_wp2_with fail
    refine (HQ.out w1).mono ?_
    rintro e w2 ⟨rfl, hb2⟩
    have B2 := bx (B1.out.trans (hb2.mono B1.out.size))
    have cv2 := str_of (R3.out.below hb2) c3
    dsimp only
    clear hb2 cv1 HQ
    generalize strOfNums ys = sy at *
    go_wp2_with fail
    refine (one19_any _).mono ?_
    rintro e w3 ⟨rfl, hb3⟩
    have B3 := bx (B2.out.trans (hb3.mono B2.out.size))
    clear hb3
    go_wp2_with fail
    go_ret
    exact ⟨rfl, B3.out⟩
end Go.Proofs.Ythnommoljikaiaa
