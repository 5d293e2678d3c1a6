/- DiskPlays: the part of a round that holds the two disks against each other. -/
import Derived.Test.YthnommoljikaiaaPly7
import Derived.Test.YthnommoljikaiaaReg1
set_option linter.unusedSimpArgs false
set_option linter.unusedVariables false
namespace Go.Proofs.Ythnommoljikaiaa
open Go.RowKit

/-- The sequence that begins with a region. -/
def seqAt (n : Nat) : Code → Option Code
  | .seq (.region m x y) b => if m = n then some (.seq (.region m x y) b) else seqAt n b
  | .seq a b => match seqAt n a with
    | some c => some c
    | none => seqAt n b
  | .loop c => seqAt n c
  | .block _ c => seqAt n c
  | .scope c => seqAt n c
  | .cond _ a b => match seqAt n a with
    | some c => some c
    | none => seqAt n b
  | _ => none
noncomputable def tail14 : Code := ((Try.f4.body.bind (seqAt 34)).getD .skip)
set_option maxRecDepth 1000000 in
set_option maxHeartbeats 8000000 in
theorem plays_tail (D R g B : Nat) (st' : DSt) (kd N : Int) (bA : Option Addr) (bn bc : Nat) (fA : Option Addr) (fn fc : Nat) (wc : World) (hP : Play wc B D R st') (hU' : st'.und.length ≤ 61) (hAC : wc.heap[g]? = some (.cells #[.int .i64 kd, .int .i64 N, .slice bA bn bc, .slice fA fn fc] 45 (0, 0)))
    (Q : Exit → Act → World → Prop) (s0 s1 s2 s3 s4 s6 s8 s9 s11 s12 s13 s14 s15 s16 s17 s18 s19 s20 s21 s22 s23 s24 s25 s26 s27 s28 s29 s30 s31 s32 s33 s34 s35 s36 s37 s38 s39 s40 s41 s42 s43 s44 s45 s46 s47 s48 s49 s50 s51 s52 s53 s54 s55 s56 s57 s58 s59 s60 s61 s62 s63 s64 s65 s66 s67 s68 s69 s70 s71 s72 s73 s74 s75 s76 s77 s78 s79 s80 s81 s82 s83 s84 s85 s86 s87 s88 s89 s90 s91 s92 s93 s94 s95 s96 s97 s98 s99 s100 s101 s102 s103 s104 s105 s106 s107 s108 s109 s110 s111 s112 s113 s114 s115 s116 s117 s118 s119 s120 s121 s122 s123 s124 s125 s126 s127 s128 s129 s130 s131 s132 s133 s134 s135 s136 s137 s138 s139 s140 s141 s142 s143 s144 s145 s146 s147 s148 s149 s150 s151 s152 s153 s154 s155 s156 s157 s158 s159 s160 s161 s162 s163 s164 s165 s166 s167 s168 s169 s170 s171 s172 s173 s174 s175 s176 s177 s178 s179 s180 s181 s182 s183 s184 s185 s186 s187 s188 s189 s190 s191 s192 s193 s194 s195 s196 s197 s198 s199 s200 s201 s202 s203 s204 s205 s206 s207 s208 s209 s210 s211 s212 s213 s214 s215 s216 s217 s218 s219 s220 s221 s222 s223 : Value) (hq : ∀ (y4 y17 y18 y19 y20 y21 y22 y23 y24 y127 y128 y129 y130 y131 y132 y133 y134 y135 y136 y137 y138 y139 y140 y141 y142 y143 y144 y145 y146 y147 y148 y149 y150 y151 y152 y153 y154 y155 y156 y157 y158 y159 y160 y161 y162 y163 y164 y165 y166 y167 y168 y169 y170 y171 y172 y173 y174 y175 y176 y177 y178 y179 y180 y181 y182 y183 y184 y185 y186 y187 y188 y189 y190 y191 y192 y193 y194 y195 y196 y197 y198 y199 y200 y201 y202 y203 y204 y205 y206 y207 y208 y209 y210 y211 y212 y213 y214 y215 y216 y217 y218 y219 y220 y221 y222 : Value) (w' : World), Below wc.heap.size wc w' → Q .normal ⟨#[s0, s1, s2, s3, y4, .pointer (some ⟨D, 0, none⟩), s6, .pointer (some ⟨R, 0, none⟩), s8, s9, .pointer (some ⟨g, 0, none⟩), s11, s12, s13, s14, s15, s16, y17, y18, y19, y20, y21, y22, y23, y24, s25, s26, s27, s28, s29, s30, s31, s32, s33, s34, s35, s36, s37, s38, s39, s40, s41, s42, s43, s44, s45, s46, s47, s48, s49, s50, s51, s52, s53, s54, s55, s56, s57, s58, s59, s60, s61, s62, s63, s64, s65, s66, s67, s68, s69, s70, s71, s72, s73, s74, s75, s76, s77, s78, s79, s80, s81, s82, s83, s84, s85, s86, s87, s88, s89, s90, s91, s92, s93, s94, s95, s96, s97, s98, s99, s100, s101, s102, s103, s104, s105, s106, s107, s108, s109, s110, s111, s112, s113, s114, s115, s116, s117, s118, s119, s120, s121, s122, s123, s124, s125, s126, y127, y128, y129, y130, y131, y132, y133, y134, y135, y136, y137, y138, y139, y140, y141, y142, y143, y144, y145, y146, y147, y148, y149, y150, y151, y152, y153, y154, y155, y156, y157, y158, y159, y160, y161, y162, y163, y164, y165, y166, y167, y168, y169, y170, y171, y172, y173, y174, y175, y176, y177, y178, y179, y180, y181, y182, y183, y184, y185, y186, y187, y188, y189, y190, y191, y192, y193, y194, y195, y196, y197, y198, y199, y200, y201, y202, y203, y204, y205, y206, y207, y208, y209, y210, y211, y212, y213, y214, y215, y216, y217, y218, y219, y220, y221, y222, s223], []⟩ w') :
    tail14.wp Try.prog Q ⟨#[s0, s1, s2, s3, s4, .pointer (some ⟨D, 0, none⟩), s6, .pointer (some ⟨R, 0, none⟩), s8, s9, .pointer (some ⟨g, 0, none⟩), s11, s12, s13, s14, s15, s16, s17, s18, s19, s20, s21, s22, s23, s24, s25, s26, s27, s28, s29, s30, s31, s32, s33, s34, s35, s36, s37, s38, s39, s40, s41, s42, s43, s44, s45, s46, s47, s48, s49, s50, s51, s52, s53, s54, s55, s56, s57, s58, s59, s60, s61, s62, s63, s64, s65, s66, s67, s68, s69, s70, s71, s72, s73, s74, s75, s76, s77, s78, s79, s80, s81, s82, s83, s84, s85, s86, s87, s88, s89, s90, s91, s92, s93, s94, s95, s96, s97, s98, s99, s100, s101, s102, s103, s104, s105, s106, s107, s108, s109, s110, s111, s112, s113, s114, s115, s116, s117, s118, s119, s120, s121, s122, s123, s124, s125, s126, s127, s128, s129, s130, s131, s132, s133, s134, s135, s136, s137, s138, s139, s140, s141, s142, s143, s144, s145, s146, s147, s148, s149, s150, s151, s152, s153, s154, s155, s156, s157, s158, s159, s160, s161, s162, s163, s164, s165, s166, s167, s168, s169, s170, s171, s172, s173, s174, s175, s176, s177, s178, s179, s180, s181, s182, s183, s184, s185, s186, s187, s188, s189, s190, s191, s192, s193, s194, s195, s196, s197, s198, s199, s200, s201, s202, s203, s204, s205, s206, s207, s208, s209, s210, s211, s212, s213, s214, s215, s216, s217, s218, s219, s220, s221, s222, s223], []⟩ wc := by
  conv => arg 2; whnf
  have UX := bx hU'; have ACX := bx hAC; have QX := bx hq; 
  clear hU' hAC hq
  obtain ⟨S, A0, c0, U0, d0, hD, hRA, hRB, hSR, hSB, hBR, hUI⟩ := hP
  have FX := bx hD.facts
  obtain ⟨sn, sF, su, sl, sd⟩ := st'
  dsimp only at hD hRA hRB hUI FX UX
  obtain ⟨nn, rfl⟩ : ∃ nn : Nat, sn = nn := ⟨sn.toNat, by have := FX.out.2.2.2.2.1; omega⟩
  rw [Int.toNat_natCast] at hRA hRB
  have hnn : nn ≤ 2048 := by have := FX.out.2.2.2.2.2; omega
  obtain ⟨um, hum⟩ : ∃ um, um = su.length := ⟨_, rfl⟩
  rw [← hum] at hRA hRB UX
  have hum61 : um ≤ 61 := UX.out
  obtain ⟨rb, re, hrd⟩ : ∃ rb re, readD ⟨nn, sF, su, sl, sd⟩ N = (rb, re) := ⟨_, _, rfl⟩
  have RDX := bx hrd; have HUM := bx hum; have DX := bx hD; have RAX := bx hRA; have RBX := bx hRB
  have HUB : Bx (su.length ≤ 100000) := ⟨by have := UX.out; omega⟩
  have hui : Bx (∀ x ∈ su, 0 ≤ x.1 ∧ x.1 < (nn : Int)) := ⟨hUI⟩
  have y1 : wc.cell? ⟨g, 1, none⟩ = some (.int .i64 N) := blk_cell ACX.out rfl
  have HRL2 := bx (blk_lt hRB); have HAL := bx (blk_lt ACX.out)
  clear hD hRA hRB hSR hSB hBR hUI hrd hum
  go_wp2_with fail
  refine (dread_any _ S D _ N DX.out HUB.out).mono ?_
  rintro e w11 ⟨v11, rfl, hv11, _, hb11⟩
  rw [RDX.out] at hv11 ⊢
  obtain ⟨A11, c11, rfl, hr11, hc11, hn11⟩ := hv11
  dsimp only at hr11 hc11
  have B11 := bx hb11
  have y1 : w11.cell? ⟨g, 1, none⟩ = some (.int .i64 N) := (hb11.cell (p := ⟨g, 1, none⟩) HAL.out).trans y1
  have RB11 := bx ((hb11.block R HRL2.out).trans RBX.out)
  have R11 := bx hr11
  clear hr11 hn11 hc11 hb11
  dsimp only
  go_wp2_with (first
    | ((with_reducible refine at_load 135 ?_); go_must (refine wpList_load_agg rfl 40 (.tmp 7) rfl R 0 rfl 40 _ 4 _ RB11.out Try.underlying40 rfl rdInfo (Nat.le_refl 4) (rCells (.slice A0 nn c0) (.slice U0 um d0) sl sd) rfl ?_)))
  refine (rread_any _ (fun j => S j ∨ j = R) _ ⟨nn, sF, su, sl, sd⟩ N ⟨A0, c0, U0, d0, by rw [← HUM.out]; rfl, by have := RAX.out.kept B11.out; rw [HUM.out] at this; exact this⟩ FX.out.2.2.2.2.1 FX.out.2.2.2.2.2 HUB.out).mono ?_
  rintro e w12 ⟨rfl, hb12⟩
  rw [RDX.out]
  have B12 := bx (B11.out.trans (hb12.mono B11.out.size))
  have R12 := bx (R11.out.below hb12)
  clear hb12 R11 RB11 y1
  dsimp only
  go_wp2_with fail
  refine (under_any _ S D _ (DX.out.kept B12.out) HUB.out).mono ?_
  rintro e w13 ⟨v13, rfl, hv13, hb13⟩
  obtain ⟨A13, c13, rfl, hri13, _⟩ := ownsRow_rdI hv13
  dsimp only at hri13
  rw [← HUM.out] at hri13
  have B13 := bx (B12.out.trans (hb13.mono B12.out.size)); have R13 := bx (R12.out.below hb13); have I13 := bx hri13
  clear hb13 R12 hv13 hri13
  dsimp only
  rw [← HUM.out]
  have HT : Bx (∀ w', Below w13.heap.size w13 w' → (convert 22 9 (.slice A11 rb.length c11)).run Try.prog w' = .ok (.string (strOfNums rb)) w' ∧ w'.cell? ⟨R, 0, none⟩ = some (.slice A0 nn c0) ∧ w'.cell? ⟨R, 1, none⟩ = some (.slice U0 um d0) ∧ w'.cell? ⟨R, 3, none⟩ = some (.bool sd) ∧ DskIs w' S D ⟨nn, sF, su, sl, sd⟩) := ⟨fun w' hb => by
    have hb2 := B13.out.trans (hb.mono B13.out.size)
    have hk := (hb2.block R HRL2.out).trans RBX.out
    exact ⟨str_of (R13.out.below hb) c11, blk_cell hk rfl, blk_cell hk rfl, blk_cell hk rfl, DX.out.kept hb2⟩⟩
  generalize strOfNums rb = sp at *
  go_wp2_with fail
  refine region_quietC (fun w' => Below w13.heap.size w13 w') (by kernel_rfl) (by kernel_rfl) ((Below.refl _ _).drew) ?_
  repeat (first
    | (refine quiet_take (v := ?_) _ rfl (by kernel_rfl) ?_ ?_; rotate_left 1; (focus (first | (intro w' hw'; clear hw'; unfold Oper.quietAt; go_simp; done) | (intro w' hw'; clear hw'; unfold Oper.quietAt; go_simp; with_reducible rfl) | (intro w' hw'; obtain ⟨z1, z2, z3, z4, z5⟩ := HT.out w' hw'; unfold Oper.quietAt; go_simp; first | done | with_reducible rfl | (refine (down_any _ S D _ z5).mono ?_; rintro e w14 ⟨rfl, rfl⟩; refine ⟨?_, hw'⟩; dsimp only; with_reducible rfl) | (refine (sectors_any _ S D _ z5).mono ?_; rintro e w14 ⟨rfl, rfl⟩; refine ⟨?_, hw'⟩; dsimp only; with_reducible rfl)))); try simp only [List.setIfInBounds_toArray, List.set_cons_zero, List.set_cons_succ])
    | (refine quiet_skip _ rfl (by kernel_rfl) ?_; try simp only [List.setIfInBounds_toArray, List.set_cons_zero, List.set_cons_succ]))
  refine wpQuiet_nil ?_
  intro w14 hS
  have B14 := bx (B13.out.trans (hS.mono B13.out.size)); have S14 := bx hS
  clear hS
  go_wp2_with fail
  go_loopw [22] (fun q wy => ∃ j : Nat, j ≤ um ∧ q = .int .i64 j ∧ Below w13.heap.size w13 wy) (fun q _ => um - (intOf q).toNat)
  case atStart => exact ⟨0, Nat.zero_le _, rfl, S14.out⟩
  case round =>
    rename World => wy
    obtain ⟨j, hj, rfl, hy⟩ := hrel
    have Y1 := bx hy; have Y2 := bx (B13.out.trans (hy.mono B13.out.size))
    clear hy
    have z0 : wy.cell? ⟨R, 0, none⟩ = some (.slice A0 nn c0) := blk_cell ((Y2.out.block R HRL2.out).trans RBX.out) rfl
    have z1 : wy.cell? ⟨R, 1, none⟩ = some (.slice U0 um d0) := blk_cell ((Y2.out.block R HRL2.out).trans RBX.out) rfl
    have z2 : wy.cell? ⟨g, 1, none⟩ = some (.int .i64 N) := (Y2.out.cell (p := ⟨g, 1, none⟩) HAL.out).trans y1
    by_cases hlt : j < um
    · have hlt' : (j : Int) < um := by omega
      obtain ⟨b, o, rfl, hbl, hcc⟩ := I13.out.2 (by omega)
      have z3 := (Y1.out.cell (p := ⟨b, o + j, none⟩) hbl).trans (hcc j hlt)
      have hun := RAX.out.und
      rw [← HUM.out] at hun
      obtain ⟨ug, rfl, hugl, hu0, _⟩ := rw_cell hun (k := j) (by rw [← HUM.out]; exact hlt)
      have z4 := (Y2.out.cell (p := ⟨ug, j * 2, none⟩) hugl).trans hu0
      have hee : (undAts su).getD j 0 = (su[j]'(by rw [← HUM.out]; exact hlt)).1 := by
        simp only [undAts, List.getD_eq_getElem?_getD, List.getElem?_map]
        rw [List.getElem?_eq_getElem (by rw [← HUM.out]; exact hlt)]
        rfl
      rw [← hee] at z4
      generalize (undAts su).getD j 0 = xj at z3 z4
      clear hee hu0 hun hcc hugl hbl
      clear RAX I13 RBX
      go_wp2_with fail
      go_quiet (fail)
      go_wp2_with fail
      exact ⟨⟨j + 1, by omega, by go_num, drewN_below Y1.out _⟩, by simp [intOf]; omega⟩
    · obtain rfl : j = um := by omega
      have hlt' : ¬ (j : Int) < j := by omega
      have z5 : wy.cell? ⟨R, 0, none⟩ = some (.slice A0 nn c0) := z0
      by_cases h0 : (0 : Int) ≤ N
      · by_cases h1 : N < (nn : Int)
        · obtain ⟨Nk, rfl⟩ : ∃ Nk : Nat, N = Nk := ⟨N.toNat, by omega⟩
          have hNk : Nk < nn := by omega
          have HSO : Bx (safeOf ⟨nn, sF, su, sl, sd⟩ (Nk : Int) = (sF Nk, 0)) := ⟨by rw [safeOf, if_neg (by dsimp only; omega)]⟩
          have HSL : Bx ((sF Nk).length = 256) := ⟨(FX.out.1 _).1⟩
          go_wp2_with fail
          refine (dsafe_any _ S D _ (Nk : Int) (DX.out.kept Y2.out)).mono ?_
          rintro e w15 ⟨v15, rfl, hv15, _, hb15⟩
          rw [HSO.out] at hv15 ⊢
          obtain ⟨A15, c15, rfl, hr15, hc15, hn15⟩ := hv15
          dsimp only at hr15 hc15
          have B15 := bx (Y2.out.trans (hb15.mono Y2.out.size)); have R15 := bx hr15
          have hsf := RAX.out.safe
          rw [Int.toNat_natCast] at hsf
          obtain ⟨sg, rfl, hsgl, hs0⟩ := safe_cell hsf hNk
          have HS0 := bx hs0
          have HT2 : Bx (∀ w', Below w15.heap.size w15 w' → (convert 22 9 (.slice A15 (sF Nk).length c15)).run Try.prog w' = .ok (.string (strOfNums (sF Nk))) w' ∧ w'.cell? ⟨R, 0, none⟩ = some (.slice (some ⟨sg, 0, none⟩) nn c0) ∧ w'.cell? ⟨g, 1, none⟩ = some (.int .i64 Nk) ∧ w'.cell? ⟨sg, Nk, none⟩ = some (.string (strOfNums (sF Nk)))) := ⟨fun w' hb => by
            have hb2 := B15.out.trans (hb.mono B15.out.size)
            exact ⟨str_of (R15.out.below hb) c15, blk_cell ((hb2.block R HRL2.out).trans RBX.out) rfl, (hb2.cell (p := ⟨g, 1, none⟩) HAL.out).trans y1, (hb2.cell (p := ⟨sg, Nk, none⟩) hsgl).trans HS0.out⟩⟩
          generalize strOfNums (sF Nk) = sq at *
          clear hs0 hsf hr15 hn15 hc15 hb15 z0 z1 z2 z5
          dsimp only
          go_wp2_with fail
          refine region_quietC (fun w' => Below w15.heap.size w15 w') (by kernel_rfl) (by kernel_rfl) ((Below.refl _ _).drew) ?_
          repeat (first
            | (refine quiet_take (v := ?_) _ rfl (by kernel_rfl) ?_ ?_; rotate_left 1; (focus (first | (intro w' hw'; clear hw'; unfold Oper.quietAt; go_simp; done) | (intro w' hw'; clear hw'; unfold Oper.quietAt; go_simp; with_reducible rfl) | (intro w' hw'; obtain ⟨z1, z2, z3, z4⟩ := HT2.out w' hw'; unfold Oper.quietAt; go_simp; first | done | with_reducible rfl))); try simp only [List.setIfInBounds_toArray, List.set_cons_zero, List.set_cons_succ])
            | (refine quiet_skip _ rfl (by kernel_rfl) ?_; try simp only [List.setIfInBounds_toArray, List.set_cons_zero, List.set_cons_succ]))
          refine wpQuiet_nil ?_
          intro w16 hS
          have B16 := bx (B15.out.trans (hS.mono B15.out.size))
          clear hS
          go_wp2_with fail
          exact QX.out _ _ _ _ _ _ _ _ _ _ _ _ _ _ _ _ _ _ _ _ _ _ _ _ _ _ _ _ _ _ _ _ _ _ _ _ _ _ _ _ _ _ _ _ _ _ _ _ _ _ _ _ _ _ _ _ _ _ _ _ _ _ _ _ _ _ _ _ _ _ _ _ _ _ _ _ _ _ _ _ _ _ _ _ _ _ _ _ _ _ _ _ _ _ _ _ _ _ _ _ _ _ _ _ _ _ B16.out
        · go_wp2_with fail
          exact QX.out _ _ _ _ _ _ _ _ _ _ _ _ _ _ _ _ _ _ _ _ _ _ _ _ _ _ _ _ _ _ _ _ _ _ _ _ _ _ _ _ _ _ _ _ _ _ _ _ _ _ _ _ _ _ _ _ _ _ _ _ _ _ _ _ _ _ _ _ _ _ _ _ _ _ _ _ _ _ _ _ _ _ _ _ _ _ _ _ _ _ _ _ _ _ _ _ _ _ _ _ _ _ _ _ _ _ Y2.out
      · go_wp2_with fail
        exact QX.out _ _ _ _ _ _ _ _ _ _ _ _ _ _ _ _ _ _ _ _ _ _ _ _ _ _ _ _ _ _ _ _ _ _ _ _ _ _ _ _ _ _ _ _ _ _ _ _ _ _ _ _ _ _ _ _ _ _ _ _ _ _ _ _ _ _ _ _ _ _ _ _ _ _ _ _ _ _ _ _ _ _ _ _ _ _ _ _ _ _ _ _ _ _ _ _ _ _ _ _ _ _ _ _ _ _ Y2.out
end Go.Proofs.Ythnommoljikaiaa
