/- The walks over frame.Open and the frame that is known. -/
import Derived.Test.YthnommoljikaiaaFrm5
import Derived.Test.YthnommoljikaiaaFrm6
set_option linter.unusedSimpArgs false
set_option linter.unusedVariables false
namespace Go.Proofs.Ythnommoljikaiaa
open Go.RowKit

set_option maxRecDepth 100000 in
set_option maxHeartbeats 1000000 in
theorem open_any (A : Option Addr) (n cap : Nat) (bs : List Int) (w : World) (hrd : RdB w A n bs) (hnil : A = none → cap = 0) (hcap : n ≤ cap) (hB : IsB bs) (hbig : n ≤ 8796093022208) :
    Calls Try.prog 52 #[.slice A n cap] w fun e w' => ∃ v, e = .returned (.tuple #[.int .i64 (openOf bs).1, v, .int .i64 (openOf bs).2.2]) ∧ BytesV w' v (openOf bs).2.1 ∧ Below w.heap.size w w' := by
  have HRD := bx hrd; have HNIL := bx hnil; have HB := bx hB
  have HLEN := length_any A n cap bs w hrd hnil hcap hB (by omega)
  have HREAD := fun w' (hb : Below w.heap.size w w') => read_any A n cap bs w' (hrd.below hb) hnil hcap hB hbig
  have hln := hrd.1
  have ho : openOf bs = if (lenOf bs).2 = 0 ∧ (lenOf bs).1 < bs.length then (0, [], 11) else ((readOf bs).1, (readOf bs).2.1, (readOf bs).2.2.2) := rfl
  rw [hln] at ho
  generalize openOf bs = r at *
  generalize lenOf bs = p at *
  generalize readOf bs = q at *
  obtain ⟨N, c⟩ := p
  obtain ⟨q1, q2, q3, q4⟩ := q
  dsimp only at ho HLEN HREAD
  have HO := bx ho; have HLN := bx HLEN; have HRE := bx HREAD
  clear hrd hnil hB HLEN HREAD ho hln
  go_enter Try.func52, Try.ntmps52
  go_wp2_with fail
  refine HLN.out.mono ?_
  rintro e w1 ⟨rfl, hb1⟩
  have B1 := bx hb1
  have HR1 := bx (HRE.out w1 hb1)
  clear hb1 HLN HRE
  by_cases hbad : c = 0
  · subst hbad
    by_cases hlong : N < (n : Int)
    · have hr := HO.out
      rw [if_pos ⟨rfl, hlong⟩] at hr
      subst hr
      go_wp2_with fail
      go_ret3
      exact ⟨_, rfl, bytesV_nil _, B1.out⟩
    · have hr := HO.out
      rw [if_neg (fun h => hlong h.2)] at hr
      subst hr
      go_wp2_with fail
      refine HR1.out.mono ?_
      rintro e w2 ⟨v, rfl, hv, hb2⟩
      have HV := bx hv; have B2 := bx (B1.out.trans (hb2.mono B1.out.size))
      clear hv hb2
      go_wp2_with fail
      go_ret3
      exact ⟨_, rfl, HV.out, B2.out⟩
  · have hr := HO.out
    rw [if_neg (fun h => hbad h.1)] at hr
    subst hr
    have hc0 : (c == 0) = false := by simp [hbad]
    go_wp2_with fail
    refine HR1.out.mono ?_
    rintro e w2 ⟨v, rfl, hv, hb2⟩
    have HV := bx hv; have B2 := bx (B1.out.trans (hb2.mono B1.out.size))
    clear hv hb2
    go_wp2_with fail
    go_ret3
    exact ⟨_, rfl, HV.out, B2.out⟩

theorem str_ab : strOfNums [97, 98] = ⟨#[97, 98]⟩ := by decide +kernel
set_option maxRecDepth 100000 in
set_option maxHeartbeats 1000000 in
theorem one19_any (w : World) :
    Calls Try.prog 50 #[] w fun e w' => e = .returned (.bool true) ∧ Below w.heap.size w w' := by
  have HRM := bx (rdB_mark w 5 [97, 98] (2, 3))
  have hcv := fun (w : World) (C : Array Value) (n c : Nat) => Lib.run_convert_bytes_const (P := Try.prog) w 22 5 C n c Try.underlying22 Try.underlying5
  have hBB : IsB [97, 98] := isB_cons (by decide) (isB_cons (by decide) isB_nil)
  have HBB := bx hBB
  have hOF := openOf_frame (kind := 7) (bs := [97, 98]) (by decide) (by decide)
  have hFL := frameOf_length 7 [97, 98]
  have hFB : IsB (frameOf 7 [97, 98]) := isB_append (frameHead_isB ⟨by decide, by decide⟩ hBB) (isB_take (shaOf_isB _) 4)
  have HP := fun (w : World) A n cap hr hn => fput_any 7 A n cap [97, 98] w ⟨by decide, by decide⟩ hr hn hBB
  have HPP := bx HP
  generalize frameOf 7 [97, 98] = F at *
  have HOF := bx hOF; have HFL := bx hFL; have HFB := bx hFB
  clear hOF hFL hFB hBB HP
  go_enter Try.func50, Try.ntmps50
  go_wp2_with fail
  refine (HPP.out _ (some ⟨w.heap.size, 0, none⟩) 2 2 HRM.out (fun h => by cases h) (by decide)).mono ?_
  rintro e w1 ⟨r, rfl, ho, hb⟩
  obtain ⟨A1, c1, rfl, hr1, hc1, hn1⟩ := ho.rdn HFL.out
  have HR1 := bx hr1; have HN1 := bx hn1
  have B1 := bx (((Below.refl w.heap.size w).alloc (Nat.le_refl _) _).trans (hb.mono (by simp)))
  clear ho hb hr1 hn1
  go_wp2_with fail
  refine (open_any A1 14 c1 F _ HR1.out HN1.out hc1 HFB.out (by decide)).mono ?_
  rintro e w2 ⟨v, rfl, hv, hb2⟩
  rw [HOF.out] at hv ⊢
  obtain ⟨A2, c2, rfl, hr2, hc2, hn2⟩ := hv
  have hst := fun (w : World) (hr : RdB w A2 2 [97, 98]) => str_of hr c2
  rw [str_ab] at hst
  have hst2 := hst _ hr2
  have B2 := bx (B1.out.trans (hb2.mono B1.out.size))
  clear hst hr2 hn2 hb2
  go_wp2_with fail
  go_ret
  exact ⟨rfl, B2.out⟩
end Go.Proofs.Ythnommoljikaiaa
