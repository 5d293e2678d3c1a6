/- The law AcceptTells: its loop and end (regions 12 to 17). -/
import Derived.Test.YthnommoljikaiaaTel4
import Derived.Test.YthnommoljikaiaaErrs
import Derived.Test.YthnommoljikaiaaAcc3
import Derived.Test.YthnommoljikaiaaOpenB
import Derived.Test.YthnommoljikaiaaSeq
set_option linter.unusedSimpArgs false
set_option linter.unusedVariables false
namespace Go.Proofs.Ythnommoljikaiaa
open Go.RowKit

noncomputable def loopT : Code := ((Try.f11.body.bind (seqOf 12)).getD .skip)
set_option maxRecDepth 1000000 in
set_option maxHeartbeats 8000000 in
theorem tells_loop (w11 : World) (Q : Exit → Act → World → Prop) (s0 s1 s2 s3 s4 s5 s6 s7 s8 s9 s10 s11 s12 s13 s14 s15 s16 s17 s18 s19 s20 s21 s22 s23 s24 s25 s26 s27 s28 s29 s30 s31 s32 s33 s34 s35 s36 s37 s38 s39 s40 s41 s42 s43 s44 s45 s46 s47 s48 s49 s50 s51 s52 s53 s54 s55 s56 s57 s58 s59 s60 s61 s62 s63 s64 s65 s66 s67 s68 s69 s70 s71 s72 s73 s74 s75 s76 s77 s78 s79 s80 s81 s82 s83 s84 s85 s86 s87 s88 s89 s90 s91 s92 s93 s94 s95 s96 s97 s98 s99 s100 s101 s102 s103 s104 s105 s106 s107 s108 s109 s110 s111 s112 s113 s114 s115 s116 s117 s118 s119 s120 s121 s122 s123 s124 s125 s126 s127 s128 s129 s130 s131 s132 s133 s134 s135 s136 s137 s138 s139 s140 s141 : Value) (hq : ∀ y6 y16 y119 y120 y121 y122 y123 y124 y125 y126 y127 y128 y129 y130 y131 y132 y133 y134 y135 y136, Q .normal ⟨#[s0, s1, s2, s3, s4, s5, y6, s7, s8, s9, s10, s11, s12, s13, s14, s15, y16, s17, s18, s19, s20, s21, s22, s23, s24, s25, s26, s27, s28, s29, s30, s31, s32, s33, s34, s35, s36, s37, s38, s39, s40, s41, s42, s43, s44, s45, s46, s47, s48, s49, s50, s51, s52, s53, s54, s55, s56, s57, s58, s59, s60, s61, s62, s63, s64, s65, s66, s67, s68, s69, s70, s71, s72, s73, s74, s75, s76, s77, s78, s79, s80, s81, s82, s83, s84, s85, s86, s87, s88, s89, s90, s91, s92, s93, s94, s95, s96, s97, s98, s99, s100, s101, s102, s103, s104, s105, s106, s107, s108, s109, s110, s111, s112, s113, s114, s115, s116, s117, s118, y119, y120, y121, y122, y123, y124, y125, y126, y127, y128, y129, y130, y131, y132, y133, y134, y135, y136, s137, s138, s139, s140, s141], []⟩ w11) :
    loopT.wp Try.prog Q ⟨#[s0, s1, s2, s3, s4, s5, s6, s7, s8, s9, s10, s11, s12, s13, s14, s15, s16, s17, s18, s19, s20, s21, s22, s23, s24, s25, s26, s27, s28, s29, s30, s31, s32, s33, s34, s35, s36, s37, s38, s39, s40, s41, s42, s43, s44, s45, s46, s47, s48, s49, s50, s51, s52, s53, s54, s55, s56, s57, s58, s59, s60, s61, s62, s63, s64, s65, s66, s67, s68, s69, s70, s71, s72, s73, s74, s75, s76, s77, s78, s79, s80, s81, s82, s83, s84, s85, s86, s87, s88, s89, s90, s91, s92, s93, s94, s95, s96, s97, s98, s99, s100, s101, s102, s103, s104, s105, s106, s107, s108, s109, s110, s111, s112, s113, s114, s115, s116, s117, s118, s119, s120, s121, s122, s123, s124, s125, s126, s127, s128, s129, s130, s131, s132, s133, s134, s135, s136, s137, s138, s139, s140, s141], []⟩ w11 := by
  conv => arg 2; whnf
  have QX := bx hq
  clear hq
  go_wp2_with fail
  go_loopw [16] (fun i wr => ∃ k : Nat, k ≤ 40 ∧ i = .int .i64 k ∧ w11 = wr) (fun i _ => 40 - (intOf i).toNat)
  case atStart => exact ⟨0, by omega, rfl, rfl⟩
  case round =>
    obtain ⟨k, hk, rfl, rfl⟩ := hrel
    by_cases hlt : k < 40
    · have hlt' : (k : Int) < 40 := by omega
      go_wp2_with fail
      refine (refused_any _ _).mono ?_
      rintro x w12 ⟨rfl, rfl⟩
      rcases (show k = 11 ∨ k = 12 ∨ k = 18 ∨ (k ≠ 11 ∧ k ≠ 12 ∧ k ≠ 18) by omega) with rfl | rfl | rfl | ⟨q1, q2, q3⟩
      · go_wp2_with fail
        exact ⟨⟨12, by omega, rfl, trivial⟩, by simp [intOf]⟩
      · go_wp2_with fail
        exact ⟨⟨13, by omega, rfl, trivial⟩, by simp [intOf]⟩
      · go_wp2_with fail
        exact ⟨⟨19, by omega, rfl, trivial⟩, by simp [intOf]⟩
      · have f1 : ((k : Int) == 11) = false := by simp; omega
        have f2 : ((k : Int) == 12) = false := by simp; omega
        have f3 : ((k : Int) == 18) = false := by simp; omega
        have f4 : refused k = false := by simp [refused, f1, f2, f3]
        rw [f4]
        clear q1 q2 q3 f4
        go_wp2_with fail
        exact ⟨⟨k + 1, by omega, by go_num, trivial⟩, by simp [intOf]; omega⟩
    · have hlt' : ¬ (k : Int) < 40 := by omega
      go_wp2_with fail
      exact QX.out _ _ _ _ _ _ _ _ _ _ _ _ _ _ _ _ _ _ _ _
end Go.Proofs.Ythnommoljikaiaa
