/- DiskPlays: a step of a round, on both disks. -/
import Derived.Test.YthnommoljikaiaaPly8a
set_option linter.unusedSimpArgs false
set_option linter.unusedVariables false
namespace Go.Proofs.Ythnommoljikaiaa
open Go.RowKit

/-- The statement that is the block of this number. -/
def blockAt (n : Nat) : Code → Option Code
  | .seq a b => match blockAt n a with
    | some c => some c
    | none => blockAt n b
  | .loop c => blockAt n c
  | .block m c => if m = n then some (.block m c) else blockAt n c
  | .scope c => blockAt n c
  | .cond _ a b => match blockAt n a with
    | some c => some c
    | none => blockAt n b
  | _ => none
noncomputable def step14 : Code := ((Try.f4.body.bind (blockAt 2)).getD .skip)
theorem rdI_take {w : World} {A : Option Addr} {n : Nat} {fs : List Int} (m : Nat) (h : RdI w A n fs) (hm : m ≤ n) : RdI w A m (fs.take m) :=
  ⟨by rw [List.length_take, h.1]; omega, fun h0 => by
    obtain ⟨b, o, e, hb, hc⟩ := h.2 (by omega)
    refine ⟨b, o, e, hb, fun j hj => ?_⟩
    rw [hc j (by omega)]
    simp [List.getD_eq_getElem?_getD, List.getElem?_take, hj]⟩
theorem und_write_len (st : DSt) (i : Int) (bs : List Int) : (writeOf st i bs).1.und.length ≤ st.und.length + 1 := by
  unfold writeOf
  split
  · show st.und.length ≤ _; omega
  · split
    · show st.und.length ≤ _; omega
    · show (st.und ++ [_]).length ≤ _
      rw [List.length_append]
      exact Nat.le_refl _
theorem und_sync_len (st : DSt) : (syncOf st).1.und.length ≤ st.und.length := by
  unfold syncOf
  split
  · exact Nat.le_refl _
  · split
    · exact Nat.le_refl _
    · exact Nat.zero_le _
set_option maxRecDepth 1000000 in
set_option maxHeartbeats 8000000 in
theorem plays_step (D R : Nat) (st : DSt) (k : Nat) (kd N : Int) (bA : Option Addr) (bn bc m : Nat) (bs : List Int) (fA : Option Addr) (fn fc : Nat) (fs6 : List Int) (ac : Array Value) (w wr w6 : World) (hP : Play wr w.heap.size D R st) (hku : st.und.length ≤ k) (hk : k ≤ 60)
    (hb : Below w.heap.size w wr) (hb6 : Below wr.heap.size wr w6) (hz6 : wr.heap.size < w6.heap.size) (hrd : RdB w6 bA m bs) (hisb : IsB bs) (hbl : bs.length ≤ 300) (hfr : RdI w fA fn fs6) (hfc : fn ≤ fc) (hnr : N ≤ 9223372036854775807)
    (hac : ac = #[.int .i64 kd, .int .i64 N, .slice bA bn bc, .slice fA fn fc]) (hAC : w6.heap[wr.heap.size]? = some (.cells ac 45 (0, 0)))
    (Q : Exit → Act → World → Prop) (s0 s1 s2 s3 s4 s6 s8 s9 s12 s13 s14 s15 s16 s17 s18 s19 s20 s21 s22 s23 s24 s25 s26 s27 s28 s29 s30 s31 s32 s33 s34 s35 s36 s37 s38 s39 s40 s41 s42 s43 s44 s45 s46 s47 s48 s49 s50 s51 s52 s53 s54 s55 s56 s57 s58 s59 s60 s61 s62 s63 s64 s65 s66 s67 s68 s70 s71 s72 s73 s74 s75 s76 s77 s78 s79 s80 s81 s82 s83 s84 s85 s86 s87 s88 s89 s90 s91 s92 s93 s94 s95 s96 s97 s98 s99 s100 s101 s102 s103 s104 s105 s106 s107 s108 s109 s110 s111 s112 s113 s114 s115 s116 s117 s118 s119 s120 s121 s122 s123 s124 s125 s126 s127 s128 s129 s130 s131 s132 s133 s134 s135 s136 s137 s138 s139 s140 s141 s142 s143 s144 s145 s146 s147 s148 s149 s150 s151 s152 s153 s154 s155 s156 s157 s158 s159 s160 s161 s162 s163 s164 s165 s166 s167 s168 s169 s170 s171 s172 s173 s174 s175 s176 s177 s178 s179 s180 s181 s182 s183 s184 s185 s186 s187 s188 s189 s190 s191 s192 s193 s194 s195 s196 s197 s198 s199 s200 s201 s202 s203 s204 s205 s206 s207 s208 s209 s210 s211 s212 s213 s214 s215 s216 s217 s218 s219 s220 s221 s222 s223 : Value) (hq : ∀ (y4 y12 y13 y14 y15 y16 y70 y71 y72 y73 y74 y75 y76 y77 y78 y79 y80 y81 y82 y83 y84 y85 y86 y87 y88 y89 y90 y91 y92 y93 y94 y95 y96 y97 y98 y99 y100 y101 y102 y103 y104 y105 y106 y107 y108 y109 y110 y111 y112 y113 y114 y115 y116 y117 y118 y119 y120 y121 y122 y123 y124 y125 y126 : Value) (st' : DSt) (w' : World), Play w' w.heap.size D R st' → st'.und.length ≤ k + 1 → Below w.heap.size w w' → w'.heap[wr.heap.size]? = some (.cells ac 45 (0, 0)) → Q .normal ⟨#[s0, s1, s2, s3, y4, .pointer (some ⟨D, 0, none⟩), s6, .pointer (some ⟨R, 0, none⟩), s8, s9, .pointer (some ⟨wr.heap.size, 0, none⟩), .slice bA m bc, y12, y13, y14, y15, y16, s17, s18, s19, s20, s21, s22, s23, s24, s25, s26, s27, s28, s29, s30, s31, s32, s33, s34, s35, s36, s37, s38, s39, s40, s41, s42, s43, s44, s45, s46, s47, s48, s49, s50, s51, s52, s53, s54, s55, s56, s57, s58, s59, s60, s61, s62, s63, s64, s65, s66, s67, s68, .int .i64 kd, y70, y71, y72, y73, y74, y75, y76, y77, y78, y79, y80, y81, y82, y83, y84, y85, y86, y87, y88, y89, y90, y91, y92, y93, y94, y95, y96, y97, y98, y99, y100, y101, y102, y103, y104, y105, y106, y107, y108, y109, y110, y111, y112, y113, y114, y115, y116, y117, y118, y119, y120, y121, y122, y123, y124, y125, y126, s127, s128, s129, s130, s131, s132, s133, s134, s135, s136, s137, s138, s139, s140, s141, s142, s143, s144, s145, s146, s147, s148, s149, s150, s151, s152, s153, s154, s155, s156, s157, s158, s159, s160, s161, s162, s163, s164, s165, s166, s167, s168, s169, s170, s171, s172, s173, s174, s175, s176, s177, s178, s179, s180, s181, s182, s183, s184, s185, s186, s187, s188, s189, s190, s191, s192, s193, s194, s195, s196, s197, s198, s199, s200, s201, s202, s203, s204, s205, s206, s207, s208, s209, s210, s211, s212, s213, s214, s215, s216, s217, s218, s219, s220, s221, s222, s223], []⟩ w') :
    step14.wp Try.prog Q ⟨#[s0, s1, s2, s3, s4, .pointer (some ⟨D, 0, none⟩), s6, .pointer (some ⟨R, 0, none⟩), s8, s9, .pointer (some ⟨wr.heap.size, 0, none⟩), .slice bA m bc, s12, s13, s14, s15, s16, s17, s18, s19, s20, s21, s22, s23, s24, s25, s26, s27, s28, s29, s30, s31, s32, s33, s34, s35, s36, s37, s38, s39, s40, s41, s42, s43, s44, s45, s46, s47, s48, s49, s50, s51, s52, s53, s54, s55, s56, s57, s58, s59, s60, s61, s62, s63, s64, s65, s66, s67, s68, .int .i64 kd, s70, s71, s72, s73, s74, s75, s76, s77, s78, s79, s80, s81, s82, s83, s84, s85, s86, s87, s88, s89, s90, s91, s92, s93, s94, s95, s96, s97, s98, s99, s100, s101, s102, s103, s104, s105, s106, s107, s108, s109, s110, s111, s112, s113, s114, s115, s116, s117, s118, s119, s120, s121, s122, s123, s124, s125, s126, s127, s128, s129, s130, s131, s132, s133, s134, s135, s136, s137, s138, s139, s140, s141, s142, s143, s144, s145, s146, s147, s148, s149, s150, s151, s152, s153, s154, s155, s156, s157, s158, s159, s160, s161, s162, s163, s164, s165, s166, s167, s168, s169, s170, s171, s172, s173, s174, s175, s176, s177, s178, s179, s180, s181, s182, s183, s184, s185, s186, s187, s188, s189, s190, s191, s192, s193, s194, s195, s196, s197, s198, s199, s200, s201, s202, s203, s204, s205, s206, s207, s208, s209, s210, s211, s212, s213, s214, s215, s216, s217, s218, s219, s220, s221, s222, s223], []⟩ w6 := by
  conv => arg 2; whnf
  have QX := bx hq; have HAC := bx hac; have B6 := bx hb6; have Z6 := bx hz6; have HRD := bx hrd; have HIB := bx hisb; have BSL := bx hbl; have HFR := bx hfr; have HFC := bx hfc; have HNR := bx hnr; have AC6 := bx hAC
  have x0 : w6.cell? ⟨wr.heap.size, 0, none⟩ = some (.int .i64 kd) := blk_cell hAC (by rw [hac]; rfl)
  have x1 : w6.cell? ⟨wr.heap.size, 1, none⟩ = some (.int .i64 N) := blk_cell hAC (by rw [hac]; rfl)
  have x3 : w6.cell? ⟨wr.heap.size, 3, none⟩ = some (.slice fA fn fc) := blk_cell hAC (by rw [hac]; rfl)
  clear hq hac hb6 hz6 hrd hisb hbl hfr hfc hnr hAC
  obtain ⟨S, A0, c0, U0, d0, hD, hRA, hRB, hSR, hSB, hBR, hUI⟩ := hP
  have DR := bx hD; have RAR := bx hRA; have RBR := bx hRB; have HSR := bx hSR; have HSB := bx hSB; have HUI := bx hUI; have BR := bx hb; have HBR := bx hBR; have HKU := bx hku
  have HRL := bx (blk_lt hRB)
  clear hD hRA hRB hSR hSB hUI hb hBR hku
  have D6 := bx (DR.out.kept B6.out); have RA6 := bx (RAR.out.kept B6.out); have RB6 := bx ((B6.out.block R HRL.out).trans RBR.out); have BW6 := bx (BR.out.trans (B6.out.mono BR.out.size))
  have FX := bx D6.out.facts
  have SL6 : Bx (∀ j, (S j ∨ j = R) → j < w6.heap.size) := ⟨fun j hj => hj.elim (fun h => by have := B6.out.size; have := (HSB.out j h).2; omega) (fun h => by have := B6.out.size; have := HRL.out; omega)⟩
  by_cases k0 : kd = 0
  · have e0 : (kd == 0) = true := by simp [k0]
    clear k0
    have cv := str_of HRD.out bc
    go_wp2_with (first
      | ((with_reducible refine at_load 73 ?_); go_must (refine wpList_load_agg rfl 40 (.tmp 7) rfl R 0 rfl 40 _ 4 _ RB6.out Try.underlying40 rfl rdInfo (Nat.le_refl 4) (rCells (.slice A0 st.n.toNat c0) (.slice U0 st.und.length d0) st.left st.down) rfl ?_)))
    refine (rwrite_any _ (fun j => S j ∨ j = R) _ st N bs ⟨A0, c0, U0, d0, rfl, RA6.out⟩ SL6.out FX.out.2.2.1 FX.out.2.2.2.1 FX.out.2.2.2.2.1 FX.out.2.2.2.2.2 (by have := HKU.out; omega) (by have := BSL.out; omega)).mono ?_
    rintro e w7 ⟨v7, rfl, ⟨A7, c7, U7, d7, rfl, hr7⟩, hb7⟩
    have R7 := bx hr7; have B7 := bx hb7; have BW7 := bx (BW6.out.trans (hb7.mono BW6.out.size)); have Z7 := bx hb7.size
    clear hr7 hb7
    go_wp2_with (first
      | ((with_reducible refine at_store (.tmp 12) (.tmp 79) ?_); go_must (refine wpList_store_agg (cells := rCells (.slice A7 (writeOf st N bs).1.n.toNat c7) (.slice U7 (writeOf st N bs).1.und.length d7) (writeOf st N bs).1.left (writeOf st N bs).1.down) rfl 40 (.tmp 12) (.tmp 79) rfl w7.heap.size 0 rfl rfl 40 rZero (blk_new w7 _) rdInfo (Nat.le_refl 4) (rd_one _ _ _ _ _ _ _ _) _ (putRow_all _ _ rfl) ?_; intro w8 hu8; have b8 := ((Below.refl w7.heap.size w7).alloc (Nat.le_refl _) (.cells rZero 40)).trans (hu8.below (Nat.le_refl _)); have B8 := bx b8; have Z8 : Bx (w7.heap.size < w8.heap.size) := ⟨by rw [hu8.size]; simp⟩; have Q8 := bx hu8.same; have AC8 := bx ((b8.block wr.heap.size (by have := Z6.out; have := Z7.out; omega)).trans ((B7.out.block wr.heap.size Z6.out).trans AC6.out)); have x1 : w8.cell? ⟨wr.heap.size, 1, none⟩ = some (.int .i64 N) := blk_cell AC8.out (by rw [HAC.out]; rfl); have D8 := bx ((D6.out.kept B7.out).kept b8); have RB8 := bx ((b8.block R (by have := HRL.out; have := B6.out.size; have := Z7.out; omega)).trans ((B7.out.block R (by have := HRL.out; have := B6.out.size; omega)).trans RB6.out)); have R8 := bx (R7.out.kept b8); clear hu8 b8)))
    obtain ⟨T, hT⟩ : ∃ T : Nat → Prop, T = fun j => S j ∨ w8.heap.size ≤ j := ⟨_, rfl⟩
    have HT := bx hT
    have TN : Bx (∀ j, j < w8.heap.size → ¬ S j → ¬ T j) := ⟨fun j h1 h2 h3 => by rw [HT.out] at h3; exact h3.elim h2 (fun h => by omega)⟩
    clear hT
    have D8' : Bx (DskIs w8 T D st) := ⟨D8.out.mono fun j hj => by rw [HT.out]; exact .inl hj⟩
    refine (dwrite_any _ T D st N bA m bc bs D8'.out (fun j hj => by rw [HT.out]; exact .inr hj) ((HRD.out.below B7.out).below B8.out) HIB.out (by have := HKU.out; omega)).mono ?_
    rintro e w9 ⟨rfl, hd9, ho9⟩
    have SLT : Bx (∀ j, S j → j < wr.heap.size) := ⟨fun j hj => (HSB.out j hj).2⟩
    have D9 := bx hd9; have O9 := bx ho9
    have NR : Bx (¬ T R) := ⟨TN.out _ (by have := HRL.out; have := B6.out.size; have := Z7.out; have := Z8.out; omega) HSR.out⟩
    have NQ : Bx (¬ T w7.heap.size) := ⟨TN.out _ Z8.out (fun h => by have := SLT.out _ h; have := Z6.out; have := Z7.out; omega)⟩
    have NA : Bx (¬ T wr.heap.size) := ⟨TN.out _ (by have := Z6.out; have := Z7.out; have := Z8.out; omega) (fun h => by have := SLT.out _ h; omega)⟩
    have RB9 := bx ((ho9.block R (by have := HRL.out; have := B6.out.size; have := Z7.out; have := Z8.out; omega) NR.out).trans RB8.out)
    have Q9 := bx ((ho9.block w7.heap.size Z8.out NQ.out).trans Q8.out)
    have AC9 := bx ((ho9.block wr.heap.size (by have := Z6.out; have := Z7.out; have := Z8.out; omega) NA.out).trans AC8.out)
    have R9 := bx ((R8.out.wide (T := fun j => T j ∨ j = R) (fun j hj hl => hj.elim (fun h => by rw [HT.out] at h; exact .inl (h.elim id (fun h => absurd hl (by omega)))) .inr)).only ho9 (fun j hj _ => .inl hj))
    have TB : Bx (∀ j, T j → w.heap.size ≤ j) := ⟨fun j hj => by rw [HT.out] at hj; exact hj.elim (fun h => (HSB.out j h).1) (fun h => by have := BW7.out.size; have := B8.out.size; omega)⟩
    have BW9 := bx ((BW7.out.trans (B8.out.mono BW7.out.size)).trans (ho9.below (by have := BW7.out.size; have := B8.out.size; omega) TB.out))
    clear hd9 ho9 x1
    go_wp2_with (first
      | ((with_reducible refine at_load 88 ?_); go_must (refine wpList_load_agg rfl 40 (.tmp 12) rfl w7.heap.size 0 rfl 40 _ 4 _ Q9.out Try.underlying40 rfl rdInfo (Nat.le_refl 4) (rCells (.slice A7 (writeOf st N bs).1.n.toNat c7) (.slice U7 (writeOf st N bs).1.und.length d7) (writeOf st N bs).1.left (writeOf st N bs).1.down) rfl ?_))
      | ((with_reducible refine at_store (.tmp 7) (.tmp 88) ?_); go_must (refine wpList_store_agg (cells := rCells (.slice A7 (writeOf st N bs).1.n.toNat c7) (.slice U7 (writeOf st N bs).1.und.length d7) (writeOf st N bs).1.left (writeOf st N bs).1.down) rfl 40 (.tmp 7) (.tmp 88) rfl R 0 rfl rfl 40 (rCells (.slice A0 st.n.toNat c0) (.slice U0 st.und.length d0) st.left st.down) RB9.out rdInfo (Nat.le_refl 4) (rd_one _ _ _ _ _ _ _ _) _ (putRow_all _ _ rfl) ?_; intro w10 hu10)))
    exact QX.out _ _ _ _ _ _ _ _ _ _ _ _ _ _ _ _ _ _ _ _ _ _ _ _ _ _ _ _ _ _ _ _ _ _ _ _ _ _ _ _ _ _ _ _ _ _ _ _ _ _ _ _ _ _ _ _ _ _ _ _ _ _ _ (writeOf st N bs).1 _ (Play.joined (D9.out.only (T := fun j => j = R) ((Only.refl _ _).upd hu10 rfl) (fun j hj e => NR.out (e ▸ hj))) (R9.out.only (T := fun j => j = R) ((Only.refl _ _).upd hu10 rfl) (fun j hj _ => .inr hj)) hu10.same NR.out TB.out HBR.out (HUI.out.write N bs)) (by have := HKU.out; have := und_write_len st N bs; omega) (BW9.out.trans (hu10.below HBR.out)) (hu10.blk AC9.out (by have := HRL.out; omega))
  · by_cases k1 : kd = 1
    · have e0 : (kd == 0) = false := by simp [k0]
      have e1 : (kd == 1) = true := by simp [k1]
      clear k0 k1
      go_wp2_with (first
        | ((with_reducible refine at_load 92 ?_); go_must (refine wpList_load_agg rfl 40 (.tmp 7) rfl R 0 rfl 40 _ 4 _ RB6.out Try.underlying40 rfl rdInfo (Nat.le_refl 4) (rCells (.slice A0 st.n.toNat c0) (.slice U0 st.und.length d0) st.left st.down) rfl ?_)))
      refine (rsync_any _ (fun j => S j ∨ j = R) _ st ⟨A0, c0, U0, d0, rfl, RA6.out⟩ SL6.out FX.out.2.2.1 FX.out.2.2.2.1 FX.out.2.2.2.2.1 FX.out.2.2.2.2.2 (by have := HKU.out; omega) (fun j => (FX.out.1 j).1) (fun x hx => ⟨(FX.out.2.1 x hx).1, HUI.out x hx⟩)).mono ?_
      rintro e w7 ⟨v7, rfl, ⟨A7, c7, U7, d7, rfl, hr7⟩, hb7⟩
      have R7 := bx hr7; have B7 := bx hb7; have BW7 := bx (BW6.out.trans (hb7.mono BW6.out.size)); have Z7 := bx hb7.size
      clear hr7 hb7
      go_wp2_with (first
        | ((with_reducible refine at_store (.tmp 14) (.tmp 94) ?_); go_must (refine wpList_store_agg (cells := rCells (.slice A7 (syncOf st).1.n.toNat c7) (.slice U7 (syncOf st).1.und.length d7) (syncOf st).1.left (syncOf st).1.down) rfl 40 (.tmp 14) (.tmp 94) rfl w7.heap.size 0 rfl rfl 40 rZero (blk_new w7 _) rdInfo (Nat.le_refl 4) (rd_one _ _ _ _ _ _ _ _) _ (putRow_all _ _ rfl) ?_; intro w8 hu8; have b8 := ((Below.refl w7.heap.size w7).alloc (Nat.le_refl _) (.cells rZero 40)).trans (hu8.below (Nat.le_refl _)); have B8 := bx b8; have Z8 : Bx (w7.heap.size < w8.heap.size) := ⟨by rw [hu8.size]; simp⟩; have Q8 := bx hu8.same; have AC8 := bx ((b8.block wr.heap.size (by have := Z6.out; have := Z7.out; omega)).trans ((B7.out.block wr.heap.size Z6.out).trans AC6.out)); have x1 : w8.cell? ⟨wr.heap.size, 1, none⟩ = some (.int .i64 N) := blk_cell AC8.out (by rw [HAC.out]; rfl); have D8 := bx ((D6.out.kept B7.out).kept b8); have RB8 := bx ((b8.block R (by have := HRL.out; have := B6.out.size; have := Z7.out; omega)).trans ((B7.out.block R (by have := HRL.out; have := B6.out.size; omega)).trans RB6.out)); have R8 := bx (R7.out.kept b8); clear hu8 b8)))
      obtain ⟨T, hT⟩ : ∃ T : Nat → Prop, T = fun j => S j ∨ w8.heap.size ≤ j := ⟨_, rfl⟩
      have HT := bx hT
      have TN : Bx (∀ j, j < w8.heap.size → ¬ S j → ¬ T j) := ⟨fun j h1 h2 h3 => by rw [HT.out] at h3; exact h3.elim h2 (fun h => by omega)⟩
      clear hT
      have D8' : Bx (DskIs w8 T D st) := ⟨D8.out.mono fun j hj => by rw [HT.out]; exact .inl hj⟩
      refine (dsync_any _ T D st D8'.out (by have := HKU.out; omega)).mono ?_
      rintro e w9 ⟨rfl, hd9, ho9⟩
      have SLT : Bx (∀ j, S j → j < wr.heap.size) := ⟨fun j hj => (HSB.out j hj).2⟩
      have D9 := bx hd9; have O9 := bx ho9
      have NR : Bx (¬ T R) := ⟨TN.out _ (by have := HRL.out; have := B6.out.size; have := Z7.out; have := Z8.out; omega) HSR.out⟩
      have NQ : Bx (¬ T w7.heap.size) := ⟨TN.out _ Z8.out (fun h => by have := SLT.out _ h; have := Z6.out; have := Z7.out; omega)⟩
      have NA : Bx (¬ T wr.heap.size) := ⟨TN.out _ (by have := Z6.out; have := Z7.out; have := Z8.out; omega) (fun h => by have := SLT.out _ h; omega)⟩
      have RB9 := bx ((ho9.block R (by have := HRL.out; have := B6.out.size; have := Z7.out; have := Z8.out; omega) NR.out).trans RB8.out)
      have Q9 := bx ((ho9.block w7.heap.size Z8.out NQ.out).trans Q8.out)
      have AC9 := bx ((ho9.block wr.heap.size (by have := Z6.out; have := Z7.out; have := Z8.out; omega) NA.out).trans AC8.out)
      have R9 := bx ((R8.out.wide (T := fun j => T j ∨ j = R) (fun j hj hl => hj.elim (fun h => by rw [HT.out] at h; exact .inl (h.elim id (fun h => absurd hl (by omega)))) .inr)).only ho9 (fun j hj _ => .inl hj))
      have TB : Bx (∀ j, T j → w.heap.size ≤ j) := ⟨fun j hj => by rw [HT.out] at hj; exact hj.elim (fun h => (HSB.out j h).1) (fun h => by have := BW7.out.size; have := B8.out.size; omega)⟩
      have BW9 := bx ((BW7.out.trans (B8.out.mono BW7.out.size)).trans (ho9.below (by have := BW7.out.size; have := B8.out.size; omega) TB.out))
      clear hd9 ho9 x1
      go_wp2_with (first
        | ((with_reducible refine at_load 100 ?_); go_must (refine wpList_load_agg rfl 40 (.tmp 14) rfl w7.heap.size 0 rfl 40 _ 4 _ Q9.out Try.underlying40 rfl rdInfo (Nat.le_refl 4) (rCells (.slice A7 (syncOf st).1.n.toNat c7) (.slice U7 (syncOf st).1.und.length d7) (syncOf st).1.left (syncOf st).1.down) rfl ?_))
        | ((with_reducible refine at_store (.tmp 7) (.tmp 100) ?_); go_must (refine wpList_store_agg (cells := rCells (.slice A7 (syncOf st).1.n.toNat c7) (.slice U7 (syncOf st).1.und.length d7) (syncOf st).1.left (syncOf st).1.down) rfl 40 (.tmp 7) (.tmp 100) rfl R 0 rfl rfl 40 (rCells (.slice A0 st.n.toNat c0) (.slice U0 st.und.length d0) st.left st.down) RB9.out rdInfo (Nat.le_refl 4) (rd_one _ _ _ _ _ _ _ _) _ (putRow_all _ _ rfl) ?_; intro w10 hu10)))
      exact QX.out _ _ _ _ _ _ _ _ _ _ _ _ _ _ _ _ _ _ _ _ _ _ _ _ _ _ _ _ _ _ _ _ _ _ _ _ _ _ _ _ _ _ _ _ _ _ _ _ _ _ _ _ _ _ _ _ _ _ _ _ _ _ _ (syncOf st).1 _ (Play.joined (D9.out.only (T := fun j => j = R) ((Only.refl _ _).upd hu10 rfl) (fun j hj e => NR.out (e ▸ hj))) (R9.out.only (T := fun j => j = R) ((Only.refl _ _).upd hu10 rfl) (fun j hj _ => .inr hj)) hu10.same NR.out TB.out HBR.out HUI.out.sync) (by have := HKU.out; have := und_sync_len st; omega) (BW9.out.trans (hu10.below HBR.out)) (hu10.blk AC9.out (by have := HRL.out; omega))
    · by_cases k2 : kd = 2
      · have e0 : (kd == 0) = false := by simp [k0]
        have e1 : (kd == 1) = false := by simp [k1]
        have e2 : (kd == 2) = true := by simp [k2]
        clear k0 k1 k2
        go_wp2_with fail
        refine (arm_any _ S D st N D6.out HNR.out).mono ?_
        rintro e w9 ⟨rfl, hd9, ho9⟩
        have SLT : Bx (∀ j, S j → j < wr.heap.size) := ⟨fun j hj => (HSB.out j hj).2⟩
        have D9 := bx hd9
        have NR := bx HSR.out
        have NA : Bx (¬ S wr.heap.size) := ⟨fun h => by have := SLT.out _ h; omega⟩
        have rb9 := (ho9.block R (by have := HRL.out; have := B6.out.size; omega) NR.out).trans RB6.out
        have AC9 := bx ((ho9.block wr.heap.size Z6.out NA.out).trans AC6.out)
        have R9 := bx (RA6.out.only ho9 (fun j hj _ => .inl hj))
        have TB : Bx (∀ j, S j → w.heap.size ≤ j) := ⟨fun j hj => (HSB.out j hj).1⟩
        have BW9 := bx (BW6.out.trans (ho9.below BW6.out.size TB.out))
        have x1 : w9.cell? ⟨wr.heap.size, 1, none⟩ = some (.int .i64 N) := blk_cell AC9.out (by rw [HAC.out]; rfl)
        have f2 : w9.frozen? ⟨R, 2, none⟩ = false := blk_frozen 2 rb9
        have g2 : w9.cell? ⟨R, 2, none⟩ = some (.int .i64 st.left) := blk_cell rb9 rfl
        have hu10 := upd_cell rb9 (j := 2) (.int .i64 (max N (-1)))
        have U10 := bx hu10
        clear hd9 ho9 rb9 hu10
        go_wp2_with fail
        have hu10 := U10.out
        exact QX.out _ _ _ _ _ _ _ _ _ _ _ _ _ _ _ _ _ _ _ _ _ _ _ _ _ _ _ _ _ _ _ _ _ _ _ _ _ _ _ _ _ _ _ _ _ _ _ _ _ _ _ _ _ _ _ _ _ _ _ _ _ _ _ (armOf st N) _ (Play.joined (D9.out.only (T := fun j => j = R) ((Only.refl _ _).upd hu10 rfl) (fun j hj e => NR.out (e ▸ hj))) (R9.out.only (T := fun j => j = R) ((Only.refl _ _).upd hu10 rfl) (fun j hj _ => .inr hj)) hu10.same NR.out TB.out HBR.out (HUI.out.arm N)) ((by have := HKU.out; exact Nat.le_trans this (by omega))) (BW9.out.trans (hu10.below HBR.out)) (hu10.blk AC9.out (by have := HRL.out; omega))
      · by_cases k3 : kd = 3
        · have e0 : (kd == 0) = false := by simp [k0]
          have e1 : (kd == 1) = false := by simp [k1]
          have e2 : (kd == 2) = false := by simp [k2]
          have e3 : (kd == 3) = true := by simp [k3]
          clear k0 k1 k2 k3
          have hf6 := HFR.out.below BW6.out
          by_cases hfl : (200 : Int) < fn
          · have HF0 : Bx (RdI w fA 200 (fs6.take 200)) := ⟨rdI_take 200 HFR.out (by omega)⟩
            have HF6 : Bx (RdI w6 fA 200 (fs6.take 200)) := ⟨HF0.out.below BW6.out⟩
            have sl := fun w => sl_h Try.underlying43 Try.sizeOf3 fA fn fc 200 (by have := HFC.out; omega) .i64 200 rfl w
            clear hf6
            go_wp2_with fail
            refine (fates_any _ fA 200 fc (fs6.take 200) HF6.out (by omega)).mono ?_
            rintro e w7 ⟨v7, rfl, hv7, hb7⟩
            obtain ⟨A7, q7, rfl, hri7, _⟩ := ownsRow_rdI hv7
            have D7 := bx (D6.out.kept hb7); have RA7 := bx (RA6.out.kept hb7); have RB7 := bx ((hb7.block R (by have := HRL.out; have := B6.out.size; omega)).trans RB6.out); have AC7 := bx ((hb7.block wr.heap.size Z6.out).trans AC6.out); have BW7 := bx (BW6.out.trans (hb7.mono BW6.out.size)); have RI7 := bx hri7; have F7 := bx (HF6.out.below hb7); have Z7 := bx hb7.size
            clear hv7 hb7 hri7
            go_wp2_with fail
            refine (dfall_any _ S D st A7 200 q7 (fs6.take 200) D7.out RI7.out (by have := HKU.out; omega) (by omega)).mono ?_
            rintro e w9 ⟨rfl, hd9, ho9⟩
            have SLT : Bx (∀ j, S j → j < wr.heap.size) := ⟨fun j hj => (HSB.out j hj).2⟩
            have D9 := bx hd9
            have NR := bx HSR.out
            have NA : Bx (¬ S wr.heap.size) := ⟨fun h => by have := SLT.out _ h; omega⟩
            have RB9 := bx ((ho9.block R (by have := HRL.out; have := B6.out.size; have := Z7.out; omega) NR.out).trans RB7.out)
            have AC9 := bx ((ho9.block wr.heap.size (by have := Z6.out; have := Z7.out; omega) NA.out).trans AC7.out)
            have R9 := bx (RA7.out.only ho9 (fun j hj _ => .inl hj))
            have TB : Bx (∀ j, S j → w.heap.size ≤ j) := ⟨fun j hj => (HSB.out j hj).1⟩
            have BW9 := bx (BW7.out.trans (ho9.below BW7.out.size TB.out))
            have F9 : Bx (RdI w9 fA 200 (fs6.take 200)) := ⟨HF0.out.below BW9.out⟩
            have SL9 : Bx (∀ j, (S j ∨ j = R) → j < w9.heap.size) := ⟨fun j hj => by have := SL6.out j hj; have := Z7.out; have := ho9.size; omega⟩
            clear hd9 ho9
            go_wp2_with (first
              | ((with_reducible refine at_load 124 ?_); go_must (refine wpList_load_agg rfl 40 (.tmp 7) rfl R 0 rfl 40 _ 4 _ RB9.out Try.underlying40 rfl rdInfo (Nat.le_refl 4) (rCells (.slice A0 st.n.toNat c0) (.slice U0 st.und.length d0) st.left st.down) rfl ?_)))
            refine (rfall_any _ (fun j => S j ∨ j = R) _ st fA 200 fc (fs6.take 200) ⟨A0, c0, U0, d0, rfl, R9.out⟩ F9.out SL9.out FX.out.2.2.2.2.1 FX.out.2.2.2.2.2 (by have := HKU.out; omega) (fun j => (FX.out.1 j).1) (fun x hx => ⟨(FX.out.2.1 x hx).1, HUI.out x hx⟩) (by omega)).mono ?_
            rintro e wa ⟨va, rfl, ⟨Aa, ca, Ua, da, rfl, hra⟩, hba⟩
            have D9 := bx (D9.out.kept hba); have R9 := bx hra; have RB9 := bx ((hba.block R (by have := SL9.out R (.inr rfl); omega)).trans RB9.out); have AC9 := bx ((hba.block wr.heap.size (blk_lt AC9.out)).trans AC9.out); have BW9 := bx (BW9.out.trans (hba.mono BW9.out.size))
            clear hra hba
            go_wp2_with (first
              | ((with_reducible refine at_store (.tmp 7) (.tmp 126) ?_); go_must (refine wpList_store_agg (cells := rCells (.slice Aa (fallOf st (fs6.take 200)).n.toNat ca) (.slice Ua (fallOf st (fs6.take 200)).und.length da) (fallOf st (fs6.take 200)).left (fallOf st (fs6.take 200)).down) rfl 40 (.tmp 7) (.tmp 126) rfl R 0 rfl rfl 40 (rCells (.slice A0 st.n.toNat c0) (.slice U0 st.und.length d0) st.left st.down) RB9.out rdInfo (Nat.le_refl 4) (rd_one _ _ _ _ _ _ _ _) _ (putRow_all _ _ rfl) ?_; intro w10 hu10)))
            exact QX.out _ _ _ _ _ _ _ _ _ _ _ _ _ _ _ _ _ _ _ _ _ _ _ _ _ _ _ _ _ _ _ _ _ _ _ _ _ _ _ _ _ _ _ _ _ _ _ _ _ _ _ _ _ _ _ _ _ _ _ _ _ _ _ (fallOf st (fs6.take 200)) _ (Play.joined (D9.out.only (T := fun j => j = R) ((Only.refl _ _).upd hu10 rfl) (fun j hj e => NR.out (e ▸ hj))) (R9.out.only (T := fun j => j = R) ((Only.refl _ _).upd hu10 rfl) (fun j hj _ => .inr hj)) hu10.same NR.out TB.out HBR.out (UndIn.fall (fs6.take 200))) (Nat.zero_le _) (BW9.out.trans (hu10.below HBR.out)) (hu10.blk AC9.out (by have := HRL.out; omega))
          · have HF0 := bx HFR.out
            have HF6 := bx hf6
            clear hf6
            go_wp2_with fail
            refine (fates_any _ fA fn fc (fs6) HF6.out (by omega)).mono ?_
            rintro e w7 ⟨v7, rfl, hv7, hb7⟩
            obtain ⟨A7, q7, rfl, hri7, _⟩ := ownsRow_rdI hv7
            have D7 := bx (D6.out.kept hb7); have RA7 := bx (RA6.out.kept hb7); have RB7 := bx ((hb7.block R (by have := HRL.out; have := B6.out.size; omega)).trans RB6.out); have AC7 := bx ((hb7.block wr.heap.size Z6.out).trans AC6.out); have BW7 := bx (BW6.out.trans (hb7.mono BW6.out.size)); have RI7 := bx hri7; have F7 := bx (HF6.out.below hb7); have Z7 := bx hb7.size
            clear hv7 hb7 hri7
            go_wp2_with fail
            refine (dfall_any _ S D st A7 fn q7 (fs6) D7.out RI7.out (by have := HKU.out; omega) (by omega)).mono ?_
            rintro e w9 ⟨rfl, hd9, ho9⟩
            have SLT : Bx (∀ j, S j → j < wr.heap.size) := ⟨fun j hj => (HSB.out j hj).2⟩
            have D9 := bx hd9
            have NR := bx HSR.out
            have NA : Bx (¬ S wr.heap.size) := ⟨fun h => by have := SLT.out _ h; omega⟩
            have RB9 := bx ((ho9.block R (by have := HRL.out; have := B6.out.size; have := Z7.out; omega) NR.out).trans RB7.out)
            have AC9 := bx ((ho9.block wr.heap.size (by have := Z6.out; have := Z7.out; omega) NA.out).trans AC7.out)
            have R9 := bx (RA7.out.only ho9 (fun j hj _ => .inl hj))
            have TB : Bx (∀ j, S j → w.heap.size ≤ j) := ⟨fun j hj => (HSB.out j hj).1⟩
            have BW9 := bx (BW7.out.trans (ho9.below BW7.out.size TB.out))
            have F9 : Bx (RdI w9 fA fn (fs6)) := ⟨HF0.out.below BW9.out⟩
            have SL9 : Bx (∀ j, (S j ∨ j = R) → j < w9.heap.size) := ⟨fun j hj => by have := SL6.out j hj; have := Z7.out; have := ho9.size; omega⟩
            clear hd9 ho9
            go_wp2_with (first
              | ((with_reducible refine at_load 124 ?_); go_must (refine wpList_load_agg rfl 40 (.tmp 7) rfl R 0 rfl 40 _ 4 _ RB9.out Try.underlying40 rfl rdInfo (Nat.le_refl 4) (rCells (.slice A0 st.n.toNat c0) (.slice U0 st.und.length d0) st.left st.down) rfl ?_)))
            refine (rfall_any _ (fun j => S j ∨ j = R) _ st fA fn fc (fs6) ⟨A0, c0, U0, d0, rfl, R9.out⟩ F9.out SL9.out FX.out.2.2.2.2.1 FX.out.2.2.2.2.2 (by have := HKU.out; omega) (fun j => (FX.out.1 j).1) (fun x hx => ⟨(FX.out.2.1 x hx).1, HUI.out x hx⟩) (by omega)).mono ?_
            rintro e wa ⟨va, rfl, ⟨Aa, ca, Ua, da, rfl, hra⟩, hba⟩
            have D9 := bx (D9.out.kept hba); have R9 := bx hra; have RB9 := bx ((hba.block R (by have := SL9.out R (.inr rfl); omega)).trans RB9.out); have AC9 := bx ((hba.block wr.heap.size (blk_lt AC9.out)).trans AC9.out); have BW9 := bx (BW9.out.trans (hba.mono BW9.out.size))
            clear hra hba
            go_wp2_with (first
              | ((with_reducible refine at_store (.tmp 7) (.tmp 126) ?_); go_must (refine wpList_store_agg (cells := rCells (.slice Aa (fallOf st (fs6)).n.toNat ca) (.slice Ua (fallOf st (fs6)).und.length da) (fallOf st (fs6)).left (fallOf st (fs6)).down) rfl 40 (.tmp 7) (.tmp 126) rfl R 0 rfl rfl 40 (rCells (.slice A0 st.n.toNat c0) (.slice U0 st.und.length d0) st.left st.down) RB9.out rdInfo (Nat.le_refl 4) (rd_one _ _ _ _ _ _ _ _) _ (putRow_all _ _ rfl) ?_; intro w10 hu10)))
            exact QX.out _ _ _ _ _ _ _ _ _ _ _ _ _ _ _ _ _ _ _ _ _ _ _ _ _ _ _ _ _ _ _ _ _ _ _ _ _ _ _ _ _ _ _ _ _ _ _ _ _ _ _ _ _ _ _ _ _ _ _ _ _ _ _ (fallOf st (fs6)) _ (Play.joined (D9.out.only (T := fun j => j = R) ((Only.refl _ _).upd hu10 rfl) (fun j hj e => NR.out (e ▸ hj))) (R9.out.only (T := fun j => j = R) ((Only.refl _ _).upd hu10 rfl) (fun j hj _ => .inr hj)) hu10.same NR.out TB.out HBR.out (UndIn.fall (fs6))) (Nat.zero_le _) (BW9.out.trans (hu10.below HBR.out)) (hu10.blk AC9.out (by have := HRL.out; omega))
        · have e0 : (kd == 0) = false := by simp [k0]
          have e1 : (kd == 1) = false := by simp [k1]
          have e2 : (kd == 2) = false := by simp [k2]
          have e3 : (kd == 3) = false := by simp [k3]
          clear k0 k1 k2 k3
          go_wp2_with fail
          exact QX.out _ _ _ _ _ _ _ _ _ _ _ _ _ _ _ _ _ _ _ _ _ _ _ _ _ _ _ _ _ _ _ _ _ _ _ _ _ _ _ _ _ _ _ _ _ _ _ _ _ _ _ _ _ _ _ _ _ _ _ _ _ _ _ st _ (Play.joined D6.out RA6.out RB6.out HSR.out (fun j hj => (HSB.out j hj).1) HBR.out HUI.out) (by have := HKU.out; omega) BW6.out AC6.out
end Go.Proofs.Ythnommoljikaiaa
