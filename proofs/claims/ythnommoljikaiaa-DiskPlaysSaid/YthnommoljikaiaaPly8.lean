/- DiskPlays: the walk over the law (not finished). -/
import Derived.Test.YthnommoljikaiaaPly8b
import Derived.Deep.CutRange
import Derived.Deep.CutBlock
set_option linter.unusedSimpArgs false
set_option linter.unusedVariables false
namespace Go.Proofs.Ythnommoljikaiaa
open Go.RowKit

def sizeOfN (n : Int) : Int := if 40 < n then 2000 + n % 60 else n
set_option maxRecDepth 100000 in
set_option maxHeartbeats 8000000 in
theorem plays_any (N : Int) (A : Option Addr) (n cap : Nat) (ls : List ActV) (w : World) (hl : RowsA w A n ls) (hbig : n ≤ maxLen) :
    Calls Try.prog 4 #[.int .i64 N, .slice A n cap] w fun e w' => e = .returned (.bool true) ∧ Below w.heap.size w w' := by
  have HRW := bx hl
  clear hl
  obtain ⟨m, hm⟩ : ∃ m, m = sizeOfN N := ⟨_, rfl⟩
  have HM := bx hm
  clear hm
  go_enter Try.func4, Try.ntmps4
  go_upto_if 26 with fail
  go_cut [0] from 25 (fun s0 wc => s0 = .int .i64 m ∧ w = wc)
  case first =>
    by_cases h : 40 < N
    · have hm : (2000 : Int) + N % 60 = m := by rw [HM.out, sizeOfN, if_pos h]
      go_wp2_with fail
      go_meet
      case rel => exact ⟨rfl, rfl⟩
    · have hm : m = N := by rw [HM.out, sizeOfN, if_neg h]
      go_wp2_with fail
      go_meet
      case rel => exact ⟨by rw [hm], rfl⟩
  case rest =>
    obtain ⟨rfl, rfl⟩ := hcut
    by_cases hm : m < 1 ∨ 2048 < m
    · go_wp2_with fail
      refine (dnew_bad _ m hm).mono ?_
      rintro e w1 ⟨rfl, hb1⟩
      have B1 := bx hb1
      clear hb1
      go_wp2_with fail
      refine (rnew_bad _ m hm).mono ?_
      rintro e w2 ⟨rfl, hb2⟩
      have B2 := bx (B1.out.trans (hb2.mono B1.out.size))
      clear hb2
      go_wp2_with (first
        | ((with_reducible refine at_store (.tmp 7) (.tmp 38) ?_); go_must (refine wpList_store_agg (cells := rZero) rfl 40 (.tmp 7) (.tmp 38) rfl w2.heap.size 0 rfl rfl 40 rZero (blk_new w2 _) rdInfo (Nat.le_refl 4) rz_one rZero (putRow_all _ _ rfl) ?_; intro w3 hu3; have B3 := bx ((B2.out.alloc B2.out.size _).trans (hu3.below B2.out.size)); clear hu3)))
      go_loopw [9] (fun q wr => Below w.heap.size w wr) (fun _ _ => 0)
      case atStart => exact B3.out
      case round =>
        have BR := bx hrel
        clear hrel
        go_wp2_with fail
        refine (one14_any _).mono ?_
        rintro e w4 ⟨rfl, hb4⟩
        have B4 := bx (BR.out.trans (hb4.mono BR.out.size))
        clear hb4
        go_wp2_with fail
        go_ret
        exact ⟨rfl, B4.out⟩
    · obtain ⟨mm, rfl⟩ : ∃ mm : Nat, m = mm := ⟨m.toNat, by omega⟩
      have hm1 : 1 ≤ mm := by omega
      have hm2 : mm ≤ 2048 := by omega
      clear hm
      go_wp2_with fail
      refine (dnew_any _ (mm : Int) (by omega) (by omega)).mono ?_
      rintro e w1 ⟨D, rfl, hd1, hb1⟩
      have B1 := bx hb1; have D1 := bx hd1.restrict
      clear hd1 hb1
      go_wp2_with fail
      refine (refnew_any _ (fun k => w.heap.size ≤ k ∧ k < w1.heap.size) mm hm1 hm2 (fun k hk => hk.2)).mono ?_
      rintro e w2 ⟨v2, rfl, ⟨A2, c2, U2, d2, rfl, hr2⟩, hb2⟩
      dsimp only at hr2
      have B2 := bx (B1.out.trans (hb2.mono B1.out.size)); have D2 := bx (D1.out.kept hb2); have Z12 := bx hb2.size; have R2 := bx hr2
      clear hr2 hb2
      dsimp only
      go_wp2_with (first
        | ((with_reducible refine at_store (.tmp 7) (.tmp 38) ?_); go_must (refine wpList_store_agg (cells := rCells _ _ _ _) rfl 40 (.tmp 7) (.tmp 38) rfl w2.heap.size 0 rfl rfl 40 rZero (blk_new w2 _) rdInfo (Nat.le_refl 4) (rd_one _ _ _ _ _ _ _ _) _ (putRow_all _ _ rfl) ?_; intro w3 hu3; have b3 := ((Below.refl w2.heap.size w2).alloc (Nat.le_refl _) (.cells rZero 40)).trans (hu3.below (Nat.le_refl _)); have B3 := bx (B2.out.trans (b3.mono B2.out.size)); have P3 : Bx (Play w3 w.heap.size D w2.heap.size ⟨mm, fun _ => zeros256, [], -1, false⟩) := ⟨Play.joined (D2.out.kept b3) ((R2.out.wide (T := fun j => (w.heap.size ≤ j ∧ j < w1.heap.size) ∨ j = w2.heap.size) (fun k hk hl => hk.elim id (fun h => absurd hl (by omega)))).kept b3) hu3.same (fun h => by have h1 := h.2; have h2 := Z12.out; omega) (fun j hj => hj.1) B2.out.size (fun x hx => by cases hx)⟩; clear hu3 b3)))
      go_loopw [9] (fun q wr => ∃ (k : Nat) (st : DSt), k ≤ 60 ∧ q = .int .i64 k ∧ Play wr w.heap.size D w2.heap.size st ∧ st.und.length ≤ k ∧ Below w.heap.size w wr) (fun q _ => 60 - (intOf q).toNat)
      case atStart => exact ⟨0, _, Nat.zero_le _, rfl, P3.out, Nat.le_refl _, B3.out⟩
      case round =>
        obtain ⟨k, st, hk, rfl, hp, hku, hb⟩ := hrel
        have PR := bx hp; have BR := bx hb; have HKU := bx hku
        clear hp hb hku
        by_cases hgo : (k : Int) < n ∧ (k : Int) < 60
        · obtain ⟨hg1, hg2⟩ := hgo
          obtain ⟨lb, lo, rfl, hlb, hlc⟩ := HRW.out.2.1 (by omega)
          have hkl : k < ls.length := by rw [HRW.out.1]; omega
          have hcl := fun i v hv => (BR.out.cell (p := ⟨lb, lo + k * 4 + i, none⟩) hlb).trans (hlc k hkl i v hv)
          have hfu := HRW.out.2.2 ls[k] (List.getElem_mem hkl)
          generalize ls[k] = av at hcl hfu
          obtain ⟨kd, N, sb, sf⟩ := av
          have HCL := bx hcl
          obtain ⟨⟨⟨hbr, hbb, hbc⟩, hbn, _⟩, ⟨hfr, hfn, hfc, _⟩, hN1, hN2⟩ := hfu
          obtain ⟨bA, bn, bc, bs6⟩ := sb
          obtain ⟨fA, fn, fc, fs6⟩ := sf
          dsimp only at hbr hbb hbc hbn hfr hfn hfc hN1 hN2
          have HB1 := bx hbr; have HB2 := bx hbb; have HFR := bx hfr; have HNR := bx hN2; have HBC := bx hbc; have HFC := bx hfc
          clear hcl hlc hbr hbb hbn hfr hfn hN1 hN2 hbc hfc
          obtain ⟨ac, hac⟩ : ∃ ac : Array Value, ac = #[.int .i64 kd, .int .i64 N, .slice bA bn bc, .slice fA fn fc] := ⟨_, rfl⟩
          have HAC := bx hac
          clear hac
          go_upto_if 65 with (first
            | ((with_reducible refine at_load 60 ?_); go_must (refine wpList_load_cells rfl 45 (.tmp 59) rfl lb (lo + k * 4) rfl _ 4 _ HCL.out Try.underlying45 rfl actInfo rfl ?_))
            | ((with_reducible refine at_store (.tmp 10) (.tmp 60) ?_); go_must (refine wpList_store_agg rfl 45 (.tmp 10) (.tmp 60) rfl wr.heap.size 0 _ rfl rfl 45 actZero (blk_new wr _) actInfo (Nat.le_refl 4) (act_one _) _ (putRow_all _ _ rfl) ?_; intro w6 hu6; have b6 := ((Below.refl wr.heap.size wr).alloc (Nat.le_refl _) (.cells actZero 45)).trans (hu6.below (Nat.le_refl _)); have B6 := bx b6; have Z6 : Bx (wr.heap.size < w6.heap.size) := ⟨by rw [hu6.size]; simp⟩; have x0 : w6.cell? ⟨wr.heap.size, 0, none⟩ = some (.int .i64 kd) := blk_cell hu6.same rfl; have x1 : w6.cell? ⟨wr.heap.size, 1, none⟩ = some (.int .i64 N) := blk_cell hu6.same rfl; have x2 : w6.cell? ⟨wr.heap.size, 2, none⟩ = some (.slice bA bn bc) := blk_cell hu6.same rfl; have x3 : w6.cell? ⟨wr.heap.size, 3, none⟩ = some (.slice fA fn fc) := blk_cell hu6.same rfl; have AC6 : Bx (w6.heap[wr.heap.size]? = some (.cells ac 45 (0, 0))) := ⟨by rw [HAC.out]; exact hu6.same⟩; clear hu6 b6)))
          go_cut [11] from 43 to 222 (fun s11 wc => ∃ (m : Nat) (bs : List Int), s11 = .slice bA m bc ∧ RdB w6 bA m bs ∧ IsB bs ∧ m ≤ 300 ∧ w6 = wc)
          case first =>
            by_cases h : (300 : Int) < bn
            · have sl := fun w => sl_h Try.underlying22 Try.sizeOf5 bA bn bc 300 (by have := HBC.out; omega) .i64 300 rfl w
              go_wp2_with fail
              go_meet
              case rel => exact ⟨300, bs6.take 300, rfl, rdB_take 300 (HB1.out.below (BR.out.trans (B6.out.mono BR.out.size))) (by omega), isB_take HB2.out 300, by omega, rfl⟩
            · go_wp2_with fail
              go_meet
              case rel => exact ⟨bn, bs6, rfl, HB1.out.below (BR.out.trans (B6.out.mono BR.out.size)), HB2.out, by omega, rfl⟩
          case rest =>
            obtain ⟨m, bs, rfl, hrd, hisb, hm3, rfl⟩ := hcut
            have HRD := bx hrd; have HIB := bx hisb
            have BSL : Bx (bs.length ≤ 300) := ⟨by rw [hrd.1]; exact hm3⟩
            clear hrd hisb
            go_upto_block 2 with fail
            refine plays_step D w2.heap.size st k kd N bA bn bc m bs fA fn fc fs6 ac w wr w6 PR.out HKU.out hk BR.out B6.out Z6.out HRD.out HIB.out BSL.out HFR.out HFC.out HNR.out HAC.out AC6.out _ _ _ _ _ _ _ _ _ _ _ _ _ _ _ _ _ _ _ _ _ _ _ _ _ _ _ _ _ _ _ _ _ _ _ _ _ _ _ _ _ _ _ _ _ _ _ _ _ _ _ _ _ _ _ _ _ _ _ _ _ _ _ _ _ _ _ _ _ _ _ _ _ _ _ _ _ _ _ _ _ _ _ _ _ _ _ _ _ _ _ _ _ _ _ _ _ _ _ _ _ _ _ _ _ _ _ _ _ _ _ _ _ _ _ _ _ _ _ _ _ _ _ _ _ _ _ _ _ _ _ _ _ _ _ _ _ _ _ _ _ _ _ _ _ _ _ _ _ _ _ _ _ _ _ _ _ _ _ _ _ _ _ _ _ _ _ _ _ _ _ _ _ _ _ _ _ _ _ _ _ _ _ _ _ _ _ _ _ _ _ _ _ _ _ _ _ _ _ _ _ _ _ _ _ _ _ _ _ _ _ _ _ _ _ _ _ _ _ _ ?_
            intro y4 y12 y13 y14 y15 y16 y70 y71 y72 y73 y74 y75 y76 y77 y78 y79 y80 y81 y82 y83 y84 y85 y86 y87 y88 y89 y90 y91 y92 y93 y94 y95 y96 y97 y98 y99 y100 y101 y102 y103 y104 y105 y106 y107 y108 y109 y110 y111 y112 y113 y114 y115 y116 y117 y118 y119 y120 y121 y122 y123 y124 y125 y126 st' wc hP hU' hBw hAC
            rw [HAC.out] at hAC
            have BX := bx hBw
            have PX := bx hP; have UX := bx hU'; have ACX := bx hAC
            clear hP hU' hBw hAC HKU HRD HIB BSL x0 x1 x2 x3 B6 Z6 AC6 HCL HB1 HB2 HFR HBC HFC
            go_step
            go_step
            refine plays_tail D w2.heap.size wr.heap.size w.heap.size st' kd N bA bn bc fA fn fc wc PX.out (by have := UX.out; omega) ACX.out _ _ _ _ _ _ _ _ _ _ _ _ _ _ _ _ _ _ _ _ _ _ _ _ _ _ _ _ _ _ _ _ _ _ _ _ _ _ _ _ _ _ _ _ _ _ _ _ _ _ _ _ _ _ _ _ _ _ _ _ _ _ _ _ _ _ _ _ _ _ _ _ _ _ _ _ _ _ _ _ _ _ _ _ _ _ _ _ _ _ _ _ _ _ _ _ _ _ _ _ _ _ _ _ _ _ _ _ _ _ _ _ _ _ _ _ _ _ _ _ _ _ _ _ _ _ _ _ _ _ _ _ _ _ _ _ _ _ _ _ _ _ _ _ _ _ _ _ _ _ _ _ _ _ _ _ _ _ _ _ _ _ _ _ _ _ _ _ _ _ _ _ _ _ _ _ _ _ _ _ _ _ _ _ _ _ _ _ _ _ _ _ _ _ _ _ _ _ _ _ _ _ _ _ _ _ _ _ _ _ _ _ _ _ _ _ _ _ _ _ _ _ ?_
            intro y4 y17 y18 y19 y20 y21 y22 y23 y24 y127 y128 y129 y130 y131 y132 y133 y134 y135 y136 y137 y138 y139 y140 y141 y142 y143 y144 y145 y146 y147 y148 y149 y150 y151 y152 y153 y154 y155 y156 y157 y158 y159 y160 y161 y162 y163 y164 y165 y166 y167 y168 y169 y170 y171 y172 y173 y174 y175 y176 y177 y178 y179 y180 y181 y182 y183 y184 y185 y186 y187 y188 y189 y190 y191 y192 y193 y194 y195 y196 y197 y198 y199 y200 y201 y202 y203 y204 y205 y206 y207 y208 y209 y210 y211 y212 y213 y214 y215 y216 y217 y218 y219 y220 y221 y222 w99 hb99
            have P99 := bx (PX.out.kept hb99); have B99 := bx (BX.out.trans (hb99.mono BX.out.size))
            clear hb99
            go_wp2_with fail
            exact ⟨⟨k + 1, st', by omega, by go_num, P99.out, UX.out, B99.out⟩, by simp [intOf]; omega⟩
        · have hex : (¬ (k : Int) < n) ∨ ((k : Int) < n ∧ ¬ (k : Int) < 60) := by
            by_cases h : (k : Int) < n
            · exact .inr ⟨h, fun h2 => hgo ⟨h, h2⟩⟩
            · exact .inl h
          clear hgo PR HKU
          rcases hex with h1 | ⟨h1, h2⟩
          all_goals
            go_wp2_with fail
            refine (one14_any _).mono ?_
            rintro e w99 ⟨rfl, hb99⟩
            have B99 := bx (BR.out.trans (hb99.mono BR.out.size))
            clear hb99
            go_wp2_with fail
            go_ret
            exact ⟨rfl, B99.out⟩
end Go.Proofs.Ythnommoljikaiaa
