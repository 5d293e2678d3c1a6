/- The law FrameBack returns true, whatever the runs of bytes, the kind, and what stands behind. -/
import Derived.Test.YthnommoljikaiaaFrm8
import Derived.Test.YthnommoljikaiaaOpenB
set_option linter.unusedSimpArgs false
set_option linter.unusedVariables false
namespace Go.Proofs.Ythnommoljikaiaa
open Go.RowKit

/-- A row of runs of bytes that came in. -/
def RowsB (w : World) (A : Option Addr) (n : Nat) (ls : List Sl) : Prop :=
  ls.length = n ∧ (0 < n → ∃ b o, A = some ⟨b, o, none⟩ ∧ b < w.heap.size ∧ ∀ j (h : j < ls.length), w.cell? ⟨b, o + j, none⟩ = some ls[j].val) ∧ ∀ s ∈ ls, s.Full w
/-- The frames of the first k of them, one behind the other. -/
def framesUp (kind : Int) (ls : List Sl) (k : Nat) : List Int := (ls.take k).flatMap fun s => frameOf kind s.bs
theorem framesUp_succ (kind : Int) (ls : List Sl) (k : Nat) (h : k < ls.length) : framesUp kind ls (k + 1) = framesUp kind ls k ++ frameOf kind ls[k].bs := by
  rw [framesUp, framesUp, List.take_succ_eq_append_getElem h, List.flatMap_append]
  simp
/-- Those from the j-th on. -/
def framesFrom (kind : Int) (ls : List Sl) (k j : Nat) : List Int := ((ls.take k).drop j).flatMap fun s => frameOf kind s.bs
theorem framesFrom_zero (kind : Int) (ls : List Sl) (k : Nat) : framesFrom kind ls k 0 = framesUp kind ls k := by simp [framesFrom, framesUp]
theorem framesFrom_end (kind : Int) (ls : List Sl) (k : Nat) : framesFrom kind ls k k = [] := by
  rw [framesFrom, List.drop_of_length_le (by rw [List.length_take]; omega)]
  rfl
theorem framesFrom_step (kind : Int) (ls : List Sl) (k j : Nat) (hj : j < k) (h : j < ls.length) : framesFrom kind ls k j = frameOf kind ls[j].bs ++ framesFrom kind ls k (j + 1) := by
  have hl : j < (ls.take k).length := by rw [List.length_take]; omega
  rw [framesFrom, List.drop_eq_getElem_cons hl, List.flatMap_cons, List.getElem_take]
  rfl
theorem isB_flatMap {ls : List Sl} {f : Sl → List Int} (h : ∀ s ∈ ls, IsB (f s)) : IsB (ls.flatMap f) := by
  induction ls with
  | nil => exact isB_nil
  | cons s ls ih => rw [List.flatMap_cons]; exact isB_append (h s (by simp)) (ih fun t ht => h t (by simp [ht]))
theorem frameOf_isB {kind : Int} {bs : List Int} (hk : 0 ≤ kind ∧ kind < 256) (hb : IsB bs) : IsB (frameOf kind bs) := isB_append (frameHead_isB hk hb) (isB_take (shaOf_isB _) 4)
theorem framesFrom_isB {w : World} {kind : Int} {ls : List Sl} (hk : 0 ≤ kind ∧ kind < 256) (hf : ∀ s ∈ ls, s.Full w) (k j : Nat) : IsB (framesFrom kind ls k j) :=
  isB_flatMap fun s hs => frameOf_isB hk (hf s (List.mem_of_mem_take (List.mem_of_mem_drop hs))).1.2.1
theorem framesUp_isB {w : World} {kind : Int} {ls : List Sl} (hk : 0 ≤ kind ∧ kind < 256) (hf : ∀ s ∈ ls, s.Full w) : ∀ k, k ≤ ls.length → IsB (framesUp kind ls k)
  | 0, _ => by simpa [framesUp] using isB_nil
  | k + 1, h => by
    rw [framesUp_succ kind ls k (by omega)]
    exact isB_append (framesUp_isB hk hf k (by omega)) (isB_append (frameHead_isB hk (hf _ (List.getElem_mem _)).1.2.1) (isB_take (shaOf_isB _) 4))
theorem framesUp_length {w : World} {kind : Int} {ls : List Sl} (hf : ∀ s ∈ ls, s.Full w) : ∀ k, k ≤ ls.length → (∀ j (h : j < ls.length), j < k → ls[j].n < 400) → (framesUp kind ls k).length ≤ k * 412
  | 0, _, _ => by simp [framesUp]
  | k + 1, h, hs => by
    have ih := framesUp_length (kind := kind) hf k (by omega) fun j hj hk => hs j hj (by omega)
    have h1 := hs k (by omega) (by omega)
    have h2 := (hf ls[k] (List.getElem_mem _)).1.1.1
    rw [framesUp_succ kind ls k (by omega), List.length_append, frameOf_length, h2]
    omega
theorem isB_drop' {l : List Int} (h : IsB l) (k : Nat) : IsB (l.drop k) := isB_drop h k
/-- What is left of a run of bytes from a place on. -/
theorem rdB_from {w : World} {A : Option Addr} {n cap : Nat} {bs : List Int} (l : Nat) (h : RdB w A n bs) (hl : l ≤ n) (hc : n ≤ cap) : RdB w (if cap = l then A else A.map (·.add l)) (n - l) (bs.drop l) := by
  refine ⟨by rw [List.length_drop, h.1], fun hn => ?_⟩
  obtain ⟨b, o, rfl, hb, hcell⟩ := h.2 (by omega)
  rw [if_neg (by omega)]
  refine ⟨b, o + l, by rw [Option.map_some, addr_add], hb, fun j hj => ?_⟩
  rw [Nat.add_assoc, hcell (l + j) (by omega)]
  simp [List.getD_eq_getElem?_getD]
theorem nil_from {A : Option Addr} {cap : Nat} (l : Nat) (h : A = none → cap = 0) : (if cap = l then A else A.map (·.add l)) = none → cap - l = 0 := by
  intro e
  by_cases hc : cap = l
  · omega
  · rw [if_neg hc] at e
    cases A with
    | none => have := h rfl; omega
    | some a => cases e

set_option maxRecDepth 100000 in
set_option maxHeartbeats 4000000 in
theorem back_any (A : Option Addr) (n cap : Nat) (ls : List Sl) (k0 : Int) (m : Sl) (w : World) (hl : RowsB w A n ls) (hbig : n ≤ maxLen) (hm : m.Full w) :
    Calls Try.prog 13 #[.slice A n cap, .int .i64 k0, m.val] w fun e w' => e = .returned (.bool true) ∧ Below w.heap.size w w' := by
  obtain ⟨mA, mn, mc, ms⟩ := m
  obtain ⟨⟨hmr, hmB, hmc⟩, hmn, _⟩ := hm
  dsimp only at hmr hmB hmc hmn
  show Calls Try.prog 13 #[.slice A n cap, .int .i64 k0, .slice mA mn mc] w _
  unfold maxLen at hbig
  have HMR := bx hmr; have HMB := bx hmB; have HMN := bx hmn
  obtain ⟨hln, hlc, hlf⟩ := hl
  have HLN := bx hln; have HLC := bx hlc; have HLF := bx hlf
  clear hmr hmB hmn hln hlc hlf
  by_cases hlong : 500 < mn
  · have h1' : (500 : Int) < mn := by omega
    go_enter Try.func13, Try.ntmps13
    go_wp2_with fail
    go_ret
    exact ⟨rfl, Below.refl _ _⟩
  · have h1 : ¬ (500 : Int) < mn := by omega
    have HM5 : Bx (mn ≤ 500) := ⟨by omega⟩
    clear hlong
    obtain ⟨kind, hi, hi1, hi2⟩ : ∃ i, wrap64 (1 + bits .and .i64 k0 127) = i ∧ 1 ≤ i ∧ i ≤ 128 := by
      have : 0 ≤ bits .and .i64 k0 127 ∧ bits .and .i64 k0 127 ≤ 127 := and_le k0 127 (by decide)
      exact ⟨_, IntWalk.wrap64_in _ (by omega), by omega, by omega⟩
    have HI := bx hi
    clear hi
    go_enter Try.func13, Try.ntmps13
    go_wp2_with fail
    rw [HI.out]
    go_loopw [7, 8, 9] (fun v c i wr => ∃ k : Nat, k ≤ 5 ∧ k ≤ n ∧ i = .int .i64 k ∧ c = .int .i64 k ∧ (∀ j (h : j < ls.length), j < k → ls[j].n < 400) ∧ OwB wr w.heap.size v (framesUp kind ls k) ∧ Below w.heap.size w wr) (fun _ _ i _ => 5 - (intOf i).toNat)
    case atStart => exact ⟨0, by omega, by omega, rfl, rfl, fun j h hj => absurd hj (by omega), OwB.nil _ _, Below.refl _ _⟩
    case round =>
      rename_i v c i
      obtain ⟨k, hk5, hkn, rfl, rfl, hsm, ho, hb⟩ := hrel
      have HSM := bx hsm; have HO := bx ho; have B := bx hb
      clear hsm ho hb
      have hcase : (∃ b o sA sn sc sbs, ∃ h : k < ls.length, A = some ⟨b, o, none⟩ ∧ (k : Int) < n ∧ (k : Int) < 5 ∧ ls[k] = ⟨sA, sn, sc, sbs⟩ ∧ wr.cell? ⟨b, o + k, none⟩ = some (.slice sA sn sc) ∧ (sn : Int) < 400) ∨
          (¬ (k : Int) < n) ∨ ((k : Int) < n ∧ ¬ (k : Int) < 5) ∨ (∃ b o sA sn sc, A = some ⟨b, o, none⟩ ∧ (k : Int) < n ∧ (k : Int) < 5 ∧ wr.cell? ⟨b, o + k, none⟩ = some (.slice sA sn sc) ∧ ¬ (sn : Int) < 400) := by
        by_cases c1 : (k : Int) < n
        · by_cases c2 : (k : Int) < 5
          · have hk : k < ls.length := by rw [HLN.out]; omega
            obtain ⟨b, o, e, hbs, hcell⟩ := HLC.out (by omega)
            have hc := (B.out.cell (p := ⟨b, o + k, none⟩) hbs).trans (hcell k hk)
            by_cases c3 : (ls[k].n : Int) < 400
            · exact .inl ⟨b, o, ls[k].A, ls[k].n, ls[k].cap, ls[k].bs, hk, e, c1, c2, rfl, hc, c3⟩
            · exact .inr (.inr (.inr ⟨b, o, ls[k].A, ls[k].n, ls[k].cap, e, c1, c2, hc, c3⟩))
          · exact .inr (.inr (.inl ⟨c1, c2⟩))
        · exact .inr (.inl c1)
      rcases hcase with ⟨b, o, sA, sn, sc, sbs, hkl, rfl, c1, c2, hsk, hck, c3⟩ | hexit
      · have HF := HLF.out ls[k] (List.getElem_mem _)
        have HUP := framesUp_succ kind ls k hkl
        have HSM' := bx (fun j (h : j < ls.length) (hj : j < k + 1) => if e : j = k then (by subst e; rw [hsk]; show sn < 400; omega : ls[j].n < 400) else HSM.out j h (by omega))
        have HUL := framesUp_length (kind := kind) HLF.out k (by omega) HSM.out
        rw [hsk] at HF HUP
        obtain ⟨⟨hsr, hsB, hsc⟩, hsn, _⟩ := HF
        dsimp only at hsr hsB hsc hsn HUP
        have HSR := bx (hsr.below B.out); have HSB := bx hsB; have HSN := bx hsn; have HUP' := bx HUP
        have hsl := hsr.1
        have HPUT := bx (fput_any kind sA sn sc sbs wr ⟨hi1, by omega⟩ HSR.out hsn hsB (by omega))
        have HBEG := bx (fun p => readOf_begin (kind := kind) (bs := sbs) p hi1 (by rw [hsl]; omega))
        have HXB : Bx (IsB (frameOf kind sbs)) := ⟨isB_append (frameHead_isB ⟨by omega, by omega⟩ hsB) (isB_take (shaOf_isB _) 4)⟩
        have HXL : Bx ((frameOf kind sbs).length = sn + 12) := ⟨by rw [frameOf_length, hsl]⟩
        have HSL := bx hsl
        rw [hsl] at HBEG
        clear hsr hsB hsc hsn hsk HUP hsl HSM
        generalize frameOf kind sbs = X at *
        generalize framesUp kind ls k = U at *
        go_wp2_with fail
        refine HPUT.out.mono ?_
        rintro e w2 ⟨r, rfl, ho, hb⟩
        obtain ⟨A3, c3', rfl, hr3, hc3, hn3⟩ := ho.rdn HXL.out
        have HR3 := bx hr3; have HN3 := bx hn3; have B2 := bx (B.out.trans (hb.mono B.out.size)); have HO2 := bx (HO.out.kept hb)
        have hck2 : w2.cell? ⟨b, o + k, none⟩ = some (.slice sA sn sc) := (hb.cell (p := ⟨b, o + k, none⟩) (cell_inB hck)).trans hck
        clear ho hb hr3 hn3 HPUT hck
        have HSZ := bx (show (sn + 12) / 9 ≤ sn + 12 by omega)
        have HU3 : Bx (U.length + (sn + 12) ≤ 70368744177664) := ⟨by omega⟩
        have HRB := bx (fun p (hp : p < sn + 12) => read_any A3 p c3' (X.take p))
        have hsl := fun (p : Nat) (hp : p < sn + 12) (w : World) => sl_h Try.underlying22 Try.sizeOf5 A3 (sn + 12) c3' p (by omega) .i64 p rfl w
        have HSLP := bx hsl
        clear hsl HUL
        go_wp2_with fail
        go_loopw [12] (fun q wr2 => ∃ p : Nat, q = .int .i64 p ∧ Below w2.heap.size w2 wr2) (fun q _ => sn + 12 - (intOf q).toNat)
        case atStart => exact ⟨0, rfl, Below.refl _ _⟩
        case round =>
          obtain ⟨p, rfl, hb2⟩ := hrel
          have BB := bx hb2
          clear hb2
          by_cases hp : p < sn + 12
          · have hp1 : (p : Int) < (sn : Int) + 12 := by omega
            have hp2 : (p : Int) ≤ c3' := by omega
            have hsl := HSLP.out p hp
            have HRD := bx ((rdB_take p HR3.out (by omega)).below BB.out)
            go_wp2_with fail
            refine (HRB.out p hp _ HRD.out HN3.out (by omega) (isB_take HXB.out p) (by omega)).mono ?_
            rintro e w4 ⟨v, rfl, hv, hb4⟩
            rw [HBEG.out p hp]
            have BB4 := bx (BB.out.trans (hb4.mono BB.out.size))
            clear hv hb4 hsl
            go_wp2_with fail
            exact ⟨⟨p + 1 + (sn + 12) / 9, by rw [show ((p + 1 + (sn + 12) / 9 : Nat) : Int) = (p : Int) + 1 + ((sn : Int) + 12) / 9 by omega], BB4.out⟩, by simp [intOf]; omega⟩
          · have hp1 : ¬ (p : Int) < (sn : Int) + 12 := by omega
            have HO4 := bx (HO2.out.kept BB.out)
            have HR4 := bx (HR3.out.below BB.out)
            have B4 := bx (B2.out.trans (BB.out.mono B2.out.size))
            go_wp2_with (first
              | ((with_reducible refine at_call 91 ?_); go_must (refine wpList_app rfl (.tmp 89) (.tmp 90) rfl w.heap.size _ U rfl HO4.out A3 (sn + 12) c3' X rfl HR4.out HN3.out HU3.out B4.out.size ?_; intro v' w' q1 q2; have K1 := bx q1; have K2 := bx q2; clear q1 q2)))
            exact ⟨⟨k + 1, by omega, by omega, by go_num, by go_num, HSM'.out, by rw [HUP'.out]; exact K1.out, HO4.out.below K2.out B4.out (Nat.le_refl _) B4.out.size⟩, by simp [intOf]; omega⟩
      · have HUL : Bx ((framesUp kind ls k).length + mn ≤ 70368744177664) := ⟨by have := framesUp_length (kind := kind) HLF.out k (by rw [HLN.out]; omega) HSM.out; have := HM5.out; omega⟩
        have HMR1 := bx (HMR.out.below B.out)
        have HUN : Bx ((framesUp kind ls k ++ ms).length ≤ 4000) := ⟨by have := framesUp_length (kind := kind) HLF.out k (by rw [HLN.out]; omega) HSM.out; have := HM5.out; rw [List.length_append, HMR.out.1]; omega⟩
        rcases hexit with h1 | ⟨h1, h2⟩ | ⟨b, o, sA, sn, sc, rfl, h1, h2, h3, h4⟩
        all_goals
          go_wp2_with (first
            | ((with_reducible refine at_call 96 ?_); go_must (refine wpList_app rfl (.tmp 94) (.tmp 95) rfl w.heap.size _ (framesUp kind ls k) rfl HO.out mA mn mc ms rfl HMR1.out HMN.out HUL.out B.out.size ?_; intro v1 w1 q1 q2; have K1 := bx q1; have K2 := bx q2; clear q1 q2)))
          have B1 := bx (HO.out.below K2.out B.out (Nat.le_refl _) B.out.size)
          obtain ⟨N1, hN1⟩ : ∃ N1, (framesUp kind ls k ++ ms).length = N1 := ⟨_, rfl⟩
          obtain ⟨A1, C1, rfl, hr1, hc1, hn1⟩ := K1.out.rdn hN1
          have HUN1 : Bx (N1 ≤ 4000) := ⟨by rw [← hN1]; exact HUN.out⟩
          clear hN1 K1
          have HR1 := bx hr1; have HN1 := bx hn1
          rw [← framesFrom_zero] at HR1
          clear hr1 hn1 K2
          go_loopw [7, 17] (fun v i wr2 => ∃ (j N2 C2 : Nat) (A2 : Option Addr), i = .int .i64 j ∧ j ≤ k ∧ v = .slice A2 N2 C2 ∧ RdB wr2 A2 N2 (framesFrom kind ls k j ++ ms) ∧ N2 ≤ C2 ∧ (A2 = none → C2 = 0) ∧ N2 ≤ 4000 ∧ Below w.heap.size w wr2) (fun _ i _ => k - (intOf i).toNat)
          case atStart => exact ⟨0, _, _, _, rfl, by omega, rfl, HR1.out, hc1, HN1.out, HUN1.out, B1.out⟩
          case round =>
            obtain ⟨j, N2, C2, A2, rfl, hjk, rfl, hr2, hc2, hn2, hN2, hb2⟩ := hrel
            have HR2 := bx hr2; have HN2 := bx hn2; have BB := bx hb2
            clear hr2 hn2 hb2
            by_cases hj : j < k
            · have hj1 : (j : Int) < k := by omega
              have hkl : j < ls.length := by rw [HLN.out]; omega
              obtain ⟨b', o', e, hbs, hcell⟩ := HLC.out (by omega)
              first
                | subst e
                | (simp only [Option.some.injEq, Addr.mk.injEq, and_true] at e; obtain ⟨e1, e2⟩ := e; have e1' := e1.symm; have e2' := e2.symm; clear e1 e2; subst e1' e2')
              have HF := HLF.out ls[j] (List.getElem_mem hkl)
              have hsz := HSM.out j hkl hj
              have hst := framesFrom_step kind ls k j hj hkl
              have hcj := (BB.out.cell (p := ⟨b', o' + j, none⟩) hbs).trans (hcell j hkl)
              generalize ls[j] = s at HF hsz hst hcj
              obtain ⟨sA, sn, sc, sbs⟩ := s
              obtain ⟨⟨hsr, hsB, hsc⟩, hsn, _⟩ := HF
              dsimp only at hsr hsB hsc hsn hsz hst
              change wr.cell? _ = some (.slice sA sn sc) at hcj
              have HFB := bx (framesFrom_isB (w := w) (kind := kind) (ls := ls) ⟨by omega, by omega⟩ HLF.out k (j + 1))
              rw [hst, List.append_assoc] at HR2
              have hsl := hsr.1
              have HXB := bx (frameOf_isB (kind := kind) ⟨by omega, by omega⟩ hsB)
              have hro := readOf_frame (kind := kind) (bs := sbs) (framesFrom kind ls k (j + 1) ++ ms) hi1 (by rw [hsl]; omega)
              have hXL : (frameOf kind sbs).length = sn + 12 := by rw [frameOf_length, hsl]
              rw [hsl] at hro
              have HRO := bx hro; have HXL := bx hXL; have HSR := bx hsr; have HSL := bx hsl
              have HAB := bx (isB_append HXB.out (isB_append HFB.out HMB.out))
              have hN3 : sn + 12 ≤ N2 := by have := HR2.out.1; rw [List.length_append, hXL] at this; omega
              generalize frameOf kind sbs = X at *
              have HRE := bx (read_any A2 N2 C2 _ wr HR2.out HN2.out hc2 HAB.out (by omega))
              rw [HRO.out] at HRE
              obtain ⟨A5, hA5⟩ : ∃ A5, (if C2 = sn + 12 then A2 else A2.map (·.add (sn + 12))) = A5 := ⟨_, rfl⟩
              have hs4 := fun w => sl_l Try.underlying22 Try.sizeOf5 A2 N2 C2 (sn + 12) hN3 .i64 ((sn : Int) + 12) (by omega) w
              have HRF := bx (rdB_from (sn + 12) HR2.out hN3 hc2)
              have HNF := bx (nil_from (sn + 12) HN2.out)
              rw [hA5] at hs4 HRF HNF
              rw [List.drop_append_of_le_length (by rw [HXL.out]; exact Nat.le_refl _), List.drop_of_length_le (by rw [HXL.out]; exact Nat.le_refl _), List.nil_append] at HRF
              clear hst hro hXL hsr hsl hA5 hcell
              go_wp2_with fail
              refine HRE.out.mono ?_
              rintro e w4 ⟨v, rfl, hv, hb4⟩
              obtain ⟨A4, c4, rfl, hr4, hc4, hn4⟩ := hv
              try dsimp only at hr4 hc4
              have B4 := bx (BB.out.trans (hb4.mono BB.out.size))
              have st3 := fun q => str_of (hr4.below (drewN_below (Below.refl _ _) q)) c4
              have st4 := fun q => str_of ((HSR.out.below B4.out).below (drewN_below (Below.refl _ _) q)) sc
              rw [HSL.out] at st3 hc4
              try dsimp only
              rw [HSL.out]
              have hc4j : w4.cell? ⟨b', o' + j, none⟩ = some (.slice sA sn sc) := (hb4.cell (p := ⟨b', o' + j, none⟩) (cell_inB hcj)).trans hcj
              have HRF4 := bx (HRF.out.below hb4)
              generalize strOfNums sbs = ss at *
              have hss : (ss.toList == ss.toList) = true := by simp
              clear hr4 hn4 hb4 hcj
              go_wp2_with fail
              go_quiet (fail)
              have BBq := bx (drewN_below B4.out nq)
              have HRFq := bx (HRF4.out.below (drewN_below (Below.refl _ _) nq))
              go_wp2_with fail
              go_roundw
              case rel => exact ⟨j + 1, N2 - (sn + 12), C2 - (sn + 12), A5, by go_num, by omega, rfl, HRFq.out, by omega, HNF.out, by omega, BBq.out⟩
              case measure => simp [intOf]; omega
            · have hj1 : ¬ (j : Int) < k := by omega
              obtain rfl : j = k := by omega
              rw [framesFrom_end, List.nil_append] at HR2
              have st1 := str_of HR2.out C2
              have st2 := str_of (HMR.out.below BB.out) mc
              generalize strOfNums ms = sm at *
              go_wp2_with fail
              refine (one19_any _).mono ?_
              rintro e w5 ⟨rfl, hb⟩
              have B5 := bx (BB.out.trans (hb.mono BB.out.size))
              clear hb
              go_wp2_with fail
              go_ret
              exact ⟨rfl, B5.out⟩
end Go.Proofs.Ythnommoljikaiaa
