/- Messages: the walk over read. -/
import Derived.Test.YthnommoljikaiaaMsg5
set_option linter.unusedSimpArgs false
set_option linter.unusedVariables false
namespace Go.Proofs.Ythnommoljikaiaa
open Go.RowKit

theorem results_ctt {P : Program} {fn : Func} {p q r : Tmp} {ty : TypeId} (h : fn.results = #[.cell p ty, .tmp q, .tmp r]) (tmps : Array Value) (w : World) (g : Nat) (t : TypeId) (cs : Array Value) (d : TypeDesc) (v u : Value)
    (hp : tmps.getD p undef = .pointer (some ⟨g, 0, none⟩)) (hq : tmps.getD q undef = v) (hr : tmps.getD r undef = u) (hg : w.heap[g]? = some (.cells cs t (0, 0)))
    (hu : P.underlying ty = some d) (hd : (match d with | .struct _ | .array _ _ => true | _ => false) = true) (hi : (P.info? ty).map (·.size) = some cs.size) :
    (results fn tmps).run P w = .ok (.tuple #[.agg cs, v, u]) w := by
  have hp' : tmps[p]?.getD undef = .pointer (some ⟨g, 0, none⟩) := by simpa using hp
  have hq' : tmps[q]?.getD undef = v := by simpa using hq
  have hr' : tmps[r]?.getD undef = u := by simpa using hr
  simp [results, h, hp', hq', hr', asAddr, run_loadVar_row w g t ty cs (0, 0) d hg hu hd hi]
theorem core_built3 (c k i : Int) : Try.prog.built 187 [(0, .int .i64 c), (2, .int .u64 i), (1, .int .i64 k)] = some (coreCells c k i 0 zero16) := by kernel_rfl
theorem name_slice (nm : List Int) (h : nm.length = 16) : Try.prog.builtSlice 113 1 [(0, .agg (ints .u8 nm))] = some (ints .u8 nm) := by
  obtain ⟨a0, a1, a2, a3, a4, a5, a6, a7, a8, a9, a10, a11, a12, a13, a14, a15, rfl⟩ := sixteen nm h
  kernel_rfl
theorem core_named (c k i : Int) (nm : List Int) (h : nm.length = 16) : putRow (coreCells c k i 0 zero16) 4 (ints .u8 nm).toList = coreCells c k i 0 nm := by
  have e2 := putRow_tail [Value.int .i64 c, Value.int .i64 k, Value.int .u64 i, Value.int .u64 0] (zero16.map (Value.int .u8)) (nm.map (Value.int .u8)) (by simp [h, zero16])
  rw [ints_toList]
  exact e2
theorem core_gen (c k i g : Int) (nm : List Int) : (coreCells c k i 0 nm).setIfInBounds 3 (.int .u64 g) = coreCells c k i g nm := by
  simp [coreCells, coreList]
theorem at_bs {P : Program} {ops : Array Oper} {rest : List Oper} {t : TypeId} {len : Nat} {parts : Array (Nat × Operand)} {T : TypeId} {pos : String} {after : Array Edge} {gd : Option (Nat × Bool)} {a : Act} {w : World} {Q : Exit → Act → World → Prop} (d : Nat)
    (h : wpList P ops Q ({ dst := some d, op := .buildSlice t len parts, type := T, pos := pos, after := after, guard := gd } :: rest) a w) : wpList P ops Q ({ dst := some d, op := .buildSlice t len parts, type := T, pos := pos, after := after, guard := gd } :: rest) a w := h
theorem wpList_bs {P : Program} {ops : Array Oper} {rest : List Oper} {o : Oper} {a : Act} {w : World} {Q : Exit → Act → World → Prop} (hg : o.guard = none) (t e : TypeId) (len : Nat) (parts : List (Nat × Operand)) (ho : o.op = .buildSlice t len parts.toArray)
    (d : Tmp) (hdst : o.dst = some d) (hu : P.underlying t = some (.slice e)) (vals : List (Nat × Value)) (hvals : (parts.map fun p => (p.1, a.eval p.2)) = vals) (cells : Array Value) (hf : P.builtSlice e len vals = some cells)
    (h : wpList P ops Q rest (a.put (some d) (.slice (some ⟨w.heap.size, 0, none⟩) len len)) (w.alloc (.cells cells e))) : wpList P ops Q (o :: rest) a w := by
  subst hvals
  refine Great.wpList_buildSliceTo hg t e len _ ho w.heap.size rfl (some d) hdst hu cells ?_ h
  rw [Array.toList_map]
  exact hf
theorem rWrong_dec (bad : Int) : (rWrong bad == 0) = decide (rWrong bad = 0) := by
  by_cases h : rWrong bad = 0 <;> simp [h]
theorem OwB.upd {w w' : World} {base g0 : Nat} {o : Obj} {v : Value} {bs : List Int} (h : OwB w base v bs) (hu : Upd w w' g0 o) (hg0 : g0 < base) : OwB w' base v bs := by
  obtain ⟨h1, h2 | ⟨g, cap, cur, e, hg, hh, h2⟩⟩ := h
  · exact ⟨h1, .inl h2⟩
  · exact ⟨h1, .inr ⟨g, cap, cur, e, hg, hu.blk hh (by omega), h2⟩⟩
def ReadOut (w : World) (m : MsgR) (e : Ending) (w' : World) : Prop := ∃ v2 n2 v3, e = .returned (.tuple #[.agg (coreCells m.c m.k m.i m.g m.nm), v2, v3]) ∧ OwN w' w.heap.size v2 n2 m.flat ∧ OwB w' w.heap.size v3 m.ds ∧ Below w.heap.size w w'
set_option maxRecDepth 100000 in
set_option maxHeartbeats 2000000 in
theorem mread_any (named : Bool) (A : Option Addr) (n cap : Nat) (bs : List Int) (w : World) (hrd : RdB w A n bs) (hnil : A = none → cap = 0) (hB : IsB bs) (hbig : n ≤ 35184372088832) :
    Calls Try.prog 101 #[.slice A n cap, .bool named] w (ReadOut w (readM named bs)) := by
  obtain ⟨s1, s2, s3, s4, s5, s6, h1, h2, h3, h4, h5, h6, hm⟩ := readM_is named bs
  rw [hm]
  clear hm
  have b1 : IsB s1.1 := by rw [h1]; unfold stepR; dsimp only; exact rRest_isB hB _ _
  have b2 : IsB s2.1 := by rw [h2]; show IsB (rRest _ _ _); exact rRest_isB b1 _ _
  have b3 : IsB s3.1 := by rw [h3]; show IsB (rRest _ _ _); exact rRest_isB b2 _ _
  have b4 : IsB s4.1 := by rw [h4]; split; (show IsB (rRest _ _ _); exact rRest_isB b3 _ _); exact b3
  have b5 : IsB s5.1 := by rw [h5]; show IsB (rRest _ _ _); exact rRest_isB b4 _ _
  have b6 : IsB s6.1 := by rw [h6]; show IsB (rRest _ _ _); exact rRest_isB b5 _ _
  have lc := numR_lt (s := (bs, 0)) hB 1
  have lk := numR_lt b2 1
  have ln := numR_lt b5 2
  obtain ⟨c, hc⟩ : ∃ c, numR (bs, 0) 1 = c := ⟨_, rfl⟩
  obtain ⟨k, hk⟩ : ∃ k, numR s2 1 = k := ⟨_, rfl⟩
  obtain ⟨i, hi⟩ : ∃ i, numR s1 8 = i := ⟨_, rfl⟩
  obtain ⟨g, hg⟩ : ∃ g, numR s4 8 = g := ⟨_, rfl⟩
  obtain ⟨nn, hn⟩ : ∃ nn : Nat, numR s5 2 = nn := ⟨(numR s5 2).toNat, by omega⟩
  obtain ⟨nm, hnm⟩ : ∃ nm, (if named then nmS s3 else zero16) = nm := ⟨_, rfl⟩
  obtain ⟨FL, hFL⟩ : ∃ FL, (namesR nn s6).1 = FL := ⟨_, rfl⟩
  obtain ⟨T, hT⟩ : ∃ T, (namesR nn s6).2 = T := ⟨_, rfl⟩
  have hnl : nm.length = 16 := by rw [← hnm]; split; exact nmS_length _; rfl
  rw [hc] at lc; rw [hk] at lk; rw [hn] at ln
  rw [hc, hk, hi, hg, hn, hnm]
  have e0 : ((nn : Int)).toNat = nn := by omega
  rw [e0, hFL, hT]
  have wc : IntKind.i64.wrap c = c := IntWalk.i64_in _ (by omega)
  have wk : IntKind.i64.wrap k = k := IntWalk.i64_in _ (by omega)
  have hnn : nn < 65536 := by have := ln.2; omega
  have HRD := bx hrd; have HNIL := bx hnil; have HB := bx hB; have HNM := bx hnm; have HNL := bx hnl; have HFL := bx hFL; have HT := bx hT
  have H1 := bx h1; have H2 := bx h2; have H3 := bx h3; have H4 := bx h4; have H5 := bx h5; have H6 := bx h6
  have HC := bx hc; have HK := bx hk; have HI := bx hi; have HG := bx hg; have HN := bx hn
  clear hrd hnil hB hnm hnl hFL hT h1 h2 h3 h4 h5 h6 hc hk hi hg hn b1 b2 b3 b4 b5 b6 lc lk ln e0
  have LIT : Bx (∀ w : World, w.alloc (.cells #[.int .i64 0, .int .i64 0, .int .u64 0, .int .u64 0, .int .u8 0, .int .u8 0, .int .u8 0, .int .u8 0, .int .u8 0, .int .u8 0, .int .u8 0, .int .u8 0, .int .u8 0, .int .u8 0, .int .u8 0, .int .u8 0, .int .u8 0, .int .u8 0, .int .u8 0, .int .u8 0] 187) = w.alloc (.cells (coreCells 0 0 0 0 zero16) 187)) := ⟨fun _ => rfl⟩
  obtain ⟨w0, hw0⟩ : ∃ w0, w0 = w.alloc (.cells (coreCells 0 0 0 0 zero16) 187) := ⟨_, rfl⟩
  have K0 : Bx (w0.heap[w.heap.size]? = some (.cells (coreCells 0 0 0 0 zero16) 187 (0, 0))) := ⟨by rw [hw0]; exact blk_new w _⟩
  have B0 : Bx (Below w.heap.size w w0) := ⟨by rw [hw0]; exact (Below.refl _ _).alloc (Nat.le_refl _) _⟩
  have HW := bx hw0
  clear hw0
  have CL : Bx (w.heap.size < w0.heap.size) := ⟨blk_lt K0.out⟩
  have IC : Bx (∀ g, (Try.prog.info? 187).map (·.size) = some (coreCells c k i g nm).size) := ⟨fun g => core_is HNL.out⟩
  cases named
  all_goals
    go_enter Try.func101, Try.ntmps101
    go_wp2_with fail
    rw [LIT.out, ← HW.out]
    clear HW LIT
    refine (rnewL_any A n cap bs _ (HRD.out.below B0.out) HNIL.out hbig).mono ?_
    rintro x w1 ⟨R, rfl, hR, hRl, hb⟩
    have R1 : Bx (RdS w0.heap.size w1 R (bs, 0)) := ⟨hR, HB.out, by rw [HRD.out.1]; exact hbig, hRl⟩
    have B1 := bx (B0.out.trans (hb.mono B0.out.size)); have K1 := bx ((hb.block _ (blk_lt K0.out)).trans K0.out)
    have RW : Bx (w.heap.size < R) := ⟨by have := CL.out; omega⟩
    clear hR hRl hb B0 K0
    go_wp2_with fail
    refine (numS_any w1 R (bs, 0) 1 R1.out (by decide) (by decide)).mono ?_
    rintro x w2 ⟨rfl, hR, ho⟩
    rw [← H1.out] at hR
    rw [HC.out]
    have R2 := bx hR; have B2 := bx (B1.out.trans (ho.below B1.out.size (Nat.le_of_lt RW.out))); have K2 := bx ((ho.block _ (blk_lt K1.out) (by have := RW.out; omega)).trans K1.out)
    clear hR ho R1 B1 K1
    go_wp2_with fail
    refine (numS_any w2 R s1 8 R2.out (by decide) (by decide)).mono ?_
    rintro x w3 ⟨rfl, hR, ho⟩
    rw [← H2.out] at hR
    rw [HI.out]
    have R3 := bx hR; have B3 := bx (B2.out.trans (ho.below B2.out.size (Nat.le_of_lt RW.out))); have K3 := bx ((ho.block _ (blk_lt K2.out) (by have := RW.out; omega)).trans K2.out)
    clear hR ho R2 B2 K2
    go_wp2_with fail
    refine (numS_any w3 R s2 1 R3.out (by decide) (by decide)).mono ?_
    rintro x w4 ⟨rfl, hR, ho⟩
    rw [← H3.out] at hR
    rw [HK.out]
    have R4 := bx hR; have B4 := bx (B3.out.trans (ho.below B3.out.size (Nat.le_of_lt RW.out))); have K4 := bx ((ho.block _ (blk_lt K3.out) (by have := RW.out; omega)).trans K3.out)
    clear hR ho R3 B3 K3
    go_wp2_with (first
      | ((with_reducible refine at_build 19 ?_); go_must (refine wpList_build2 rfl 187 [(0, .tmp 13), (2, .tmp 15), (1, .tmp 18)] rfl _ rfl _ (core_built3 c k i) ?_))
      | ((with_reducible refine at_store (.tmp 4) (.tmp 19) ?_); go_must (refine store_all (cs := coreCells c k i 0 zero16) 187 (.tmp 4) (.tmp 19) rfl rfl rfl rfl K4.out (core_is rfl) rfl (core_one _ _ _ _ _) ?_; intro w5 hu5; have R5 := bx (R4.out.upd hu5 (.inr CL.out)); have B5 := bx (B4.out.trans (hu5.below (Nat.le_refl _))); have K5 := bx hu5.same; clear hu5)))
    have h4 := H4.out
    have hnm := HNM.out
    simp only [if_true, Bool.false_eq_true, if_false] at h4 hnm
    first
      | (have hna := nameS_any w5 R s3 R5.out
         rw [hnm, ← h4] at hna
         with_reducible refine hna.mono ?_
         rintro x w6 ⟨rfl, hR, ho⟩
         have R6 := bx hR; have B6 := bx (B5.out.trans (ho.below B5.out.size (Nat.le_of_lt RW.out))); have K6 := bx ((ho.block _ (blk_lt K5.out) (by have := RW.out; omega)).trans K5.out)
         clear hR ho hna h4 hnm R4 B4 K4 R5 B5 K5
         go_wp2_with (first
           | ((with_reducible refine at_store (.tmp 23) (.tmp 22) ?_); go_must (refine wpList_store_agg (cells := ints .u8 nm) rfl 113 (.tmp 23) (.tmp 22) rfl w.heap.size 4 rfl rfl 187 (coreCells c k i 0 zero16) K6.out (by rw [ints_size, HNL.out]; exact name_info) (by rw [ints_size, HNL.out]; exact Nat.le_refl 20) (ints_oneCell _ _) (coreCells c k i 0 nm) (core_named c k i nm HNL.out) ?_; intro w7 hu7; have R7 := bx (R6.out.upd hu7 (.inr CL.out)); have B7 := bx (B6.out.trans (hu7.below (Nat.le_refl _))); have K7 := bx hu7.same; clear hu7 R6 B6 K6))))
      | (have R7 : Bx (RdS w0.heap.size w5 R s4) := ⟨by rw [h4]; exact R5.out⟩
         have K7 : Bx (w5.heap[w.heap.size]? = some (.cells (coreCells c k i 0 nm) 187 (0, 0))) := ⟨by rw [← hnm]; exact K5.out⟩
         have B7 := B5
         clear R5 B5 K5 R4 B4 K4 h4 hnm
         obtain ⟨w7, hw7⟩ : ∃ w7, w7 = w5 := ⟨_, rfl⟩
         subst hw7)
    refine (numS_any w7 R s4 8 R7.out (by decide) (by decide)).mono ?_
    rintro x w8 ⟨rfl, hR, ho⟩
    rw [← H5.out] at hR
    rw [HG.out]
    have R8 := bx hR; have B8 := bx (B7.out.trans (ho.below B7.out.size (Nat.le_of_lt RW.out))); have K8 := bx ((ho.block _ (blk_lt K7.out) (by have := RW.out; omega)).trans K7.out)
    clear hR ho R7 B7 K7
    have kc : w8.cell? ⟨w.heap.size, 3, none⟩ = some (.int .u64 0) := blk_cell K8.out rfl
    have kf : w8.frozen? ⟨w.heap.size, 3, none⟩ = false := blk_frozen 3 K8.out
    obtain ⟨w9, hw9⟩ : ∃ w9, w9 = w8.setCell ⟨w.heap.size, 3, none⟩ (.int .u64 g) := ⟨_, rfl⟩
    have hu9 := upd_cell (j := 3) K8.out (.int .u64 g)
    rw [← hw9, core_gen] at hu9
    have R9 := bx (R8.out.upd hu9 (.inr CL.out)); have B9 := bx (B8.out.trans (hu9.below (Nat.le_refl _))); have K9 := bx hu9.same; have HW9 := bx hw9
    clear hu9 hw9 R8 B8 K8
    go_wp2_with fail
    rw [← HW9.out]
    clear kc kf HW9
    refine (numS_any w9 R s5 2 R9.out (by decide) (by decide)).mono ?_
    rintro x w10 ⟨rfl, hR, ho⟩
    rw [← H6.out] at hR
    rw [HN.out]
    have R10 := bx hR; have B10 := bx (B9.out.trans (ho.below B9.out.size (Nat.le_of_lt RW.out))); have K10 := bx ((ho.block _ (blk_lt K9.out) (by have := RW.out; omega)).trans K9.out)
    clear hR ho R9 B9 K9
    go_wp2_with fail
    go_loopw [5, 8] (fun l x wr => ∃ (m na : Nat) (s : List Int × Int) (acc : List Int), x = .int .u64 m ∧ na + m ≤ 65536 ∧ OwN wr (R + 1) l na acc ∧ RdS w0.heap.size wr R s ∧ acc ++ (namesR m s).1 = FL ∧ (namesR m s).2 = T ∧ wr.heap[w.heap.size]? = some (.cells (coreCells c k i g nm) 187 (0, 0)) ∧ Below w.heap.size w wr) (fun _ x _ => (intOf x).toNat)
    case atStart => exact ⟨nn, 0, s6, [], rfl, by omega, OwN.nil _ _, R10.out, HFL.out, HT.out, K10.out, B10.out⟩
    case round =>
      rename_i l wr
      obtain ⟨m, na, s, acc, rfl, hna, hown, hrd, hfl, ht, hk, hb⟩ := hrel
      have O := bx hown; have RR := bx hrd; have FF := bx hfl; have TT := bx ht; have KK := bx hk; have BB := bx hb
      clear hown hrd hfl ht hk hb R10 B10 K10 HFL HT
      have HWr := bx (rwrong_any wr R s.1 s.2 RR.out.1)
      have more : (m = 0 ∧ acc = FL ∧ s = T) ∨ (∃ m', m = m' + 1 ∧ ¬ rWrong s.2 = 0 ∧ acc = FL ∧ s = T) ∨ (∃ m', m = m' + 1 ∧ rWrong s.2 = 0 ∧ acc ++ nmS s ++ (namesR m' (stepR s 16)).1 = FL ∧ (namesR m' (stepR s 16)).2 = T) := by
        have h1 := FF.out
        have h2 := TT.out
        cases m with
        | zero => exact .inl ⟨rfl, by simpa [namesR] using h1, h2⟩
        | succ m' =>
          by_cases hw : rWrong s.2 = 0
          · rw [namesR, if_pos hw] at h1 h2
            exact .inr (.inr ⟨m', rfl, hw, by rw [List.append_assoc]; exact h1, h2⟩)
          · rw [namesR, if_neg hw] at h1 h2
            exact .inr (.inl ⟨m', rfl, hw, by simpa using h1, h2⟩)
      have hS0 : wr.drew.heap[w.heap.size]? = some (.cells (coreCells c k i g nm) 187 (0, 0)) ∧ Below w.heap.size w wr.drew := ⟨KK.out, BB.out.drew⟩
      have HS0 := bx hS0
      clear FF TT hS0
      rcases more with ⟨rfl, rfl, rfl⟩ | ⟨m', rfl, hw, rfl, rfl⟩ | ⟨m', rfl, hw, hfl, ht⟩
      · skip
        go_wp2_with fail
        skip
        have hS0 := HS0.out
        refine wp_region_held_drew (S := (fun w' => w'.heap[w.heap.size]? = some (.cells (coreCells c k i g nm) 187 (0, 0)) ∧ Below w.heap.size w w')) (by kernel_rfl) hS0 (fun hS => ?_)
        refine takeH (i := 0) (d := 43) (v := .agg (coreCells c k i g nm)) rfl rfl (by kernel_rfl) (by kernel_rfl) (by kernel_rfl) (fun _ _ _ h => h) (Or.inl ⟨by kernel_rfl, fun w' hS' => exec_load_aggM 187 (.tmp 4) rfl w.heap.size 0 rfl 187 (coreCells c k i g nm) (coreCells c k i g nm).size _ hS'.1 Try.underlying187 rfl (IC.out g) (by omega) (coreCells c k i g nm) (extract_whole _)⟩) hS ?_
        try simp only [List.setIfInBounds_toArray, List.set_cons_zero, List.set_cons_succ]
        refine takeH (i := 1) (d := 44) (v := ?_) rfl rfl (by kernel_rfl) (by kernel_rfl) (by kernel_rfl) (fun _ _ _ h => h) (Or.inl ⟨by kernel_rfl, ?_⟩) hS ?_; rotate_left 1; (focus ((intro w' hS'; clear hS'; go_simp; try with_reducible rfl); done))
        try simp only [List.setIfInBounds_toArray, List.set_cons_zero, List.set_cons_succ]
        refine takeH (i := 2) (d := 45) (v := ?_) rfl rfl (by kernel_rfl) (by kernel_rfl) (by kernel_rfl) (fun _ _ _ h => h) (Or.inl ⟨by kernel_rfl, ?_⟩) hS ?_; rotate_left 1; (focus ((intro w' hS'; clear hS'; go_simp; try with_reducible rfl); done))
        try simp only [List.setIfInBounds_toArray, List.set_cons_zero, List.set_cons_succ]
        refine wpAnyH_ready (rs := [3]) (by kernel_rfl) (by simp) ?_
        refine AllReadyH.cons rfl (fun K hK => ?_) AllReadyH.nil
        go_simp
        refine (rsz_any _ R s.1 s.2 (RR.out.1.kept (Below.refl _ _).drew) RR.out.2.1 RR.out.2.2.1).mono ?_
        rintro x w11 ⟨v, rfl, hv, hr, ho⟩
        have V11 := bx hv; have O11 := bx ((O.out.kept (Below.refl _ _).drew).only ho (Nat.lt_succ_self R)); have K11 := bx ((ho.block _ (blk_lt hS.1) (by have := RW.out; omega)).trans hS.1); have B11 := bx (hS.2.trans (ho.below hS.2.size (Nat.le_of_lt RW.out)))
        clear hv hr ho
        refine hK.out _ _ ?_ (fun hS2 => ?_)
        · exact ⟨K11.out, B11.out⟩
        clear hK K hS; have hS := hS2; clear hS2
        try simp only [Act.put, List.setIfInBounds_toArray, List.set_cons_zero, List.set_cons_succ]
        refine wpAnyH_ready (rs := [4]) (by kernel_rfl) (by simp) ?_
        refine readyH_list rfl (fun K hK => ?_) AllReadyH.nil
        refine store_all (cs := coreCells c k i g nm) 187 (.tmp 4) (.tmp 43) rfl rfl rfl rfl K11.out (IC.out g) rfl (core_one _ _ _ _ _) ?_
        intro w12 hu12
        show wpList _ _ K [] (Act.put _ none undef) w12
        refine hK.out _ _ ?_ (fun hS2 => ?_)
        · exact ⟨hu12.same, hS.2.trans (hu12.below (Nat.le_refl _))⟩
        clear hK K hS; have hS := hS2; clear hS2
        try simp only [Act.put, List.setIfInBounds_toArray, List.set_cons_zero, List.set_cons_succ]
        refine takeH (i := 5) (d := 5) (v := ?_) rfl rfl (by kernel_rfl) (by kernel_rfl) (by kernel_rfl) (fun _ _ _ h => h) (Or.inl ⟨by kernel_rfl, ?_⟩) hS ?_; rotate_left 1; (focus ((intro w' hS'; clear hS'; go_simp; try with_reducible rfl); done))
        try simp only [List.setIfInBounds_toArray, List.set_cons_zero, List.set_cons_succ]
        refine takeH (i := 6) (d := 6) (v := ?_) rfl rfl (by kernel_rfl) (by kernel_rfl) (by kernel_rfl) (fun _ _ _ h => h) (Or.inl ⟨by kernel_rfl, ?_⟩) hS ?_; rotate_left 1; (focus ((intro w' hS'; clear hS'; go_simp; try with_reducible rfl); done))
        try simp only [List.setIfInBounds_toArray, List.set_cons_zero, List.set_cons_succ]
        refine wpAnyH_done (by kernel_rfl) ?_ _
        have O12 := bx (O11.out.upd hu12 (by have := RW.out; omega)); have V12 := bx (V11.out.upd hu12 (by have := BB.out.size; have := blk_lt KK.out; simp; omega)); have K12 := bx hu12.same; have B12 := bx hS.2
        clear hu12 hS hS0
        go_wp2_with fail
        refine bodyPost_ret (results_ctt (cs := coreCells c k i g nm) rfl _ _ w.heap.size 187 _ _ _ rfl rfl rfl K12.out Try.underlying187 rfl (IC.out g)) rfl ?_
        exact ⟨_, _, _, rfl, O12.out.base_le (by have := RW.out; omega), V12.out.base_le (by simpa using BB.out.size), B12.out⟩
      · (have hwq : (rWrong s.2 == 0) = false := by simp [hw]); have e1 : (0 : Int) < (m' : Int) + 1 := by omega
        go_wp2_with fail
        (refine HWr.out.mono ?_; rintro x w9 ⟨rfl, rfl⟩; go_wp2_with fail)
        have hS0 := HS0.out
        refine wp_region_held_drew (S := (fun w' => w'.heap[w.heap.size]? = some (.cells (coreCells c k i g nm) 187 (0, 0)) ∧ Below w.heap.size w w')) (by kernel_rfl) hS0 (fun hS => ?_)
        refine takeH (i := 0) (d := 43) (v := .agg (coreCells c k i g nm)) rfl rfl (by kernel_rfl) (by kernel_rfl) (by kernel_rfl) (fun _ _ _ h => h) (Or.inl ⟨by kernel_rfl, fun w' hS' => exec_load_aggM 187 (.tmp 4) rfl w.heap.size 0 rfl 187 (coreCells c k i g nm) (coreCells c k i g nm).size _ hS'.1 Try.underlying187 rfl (IC.out g) (by omega) (coreCells c k i g nm) (extract_whole _)⟩) hS ?_
        try simp only [List.setIfInBounds_toArray, List.set_cons_zero, List.set_cons_succ]
        refine takeH (i := 1) (d := 44) (v := ?_) rfl rfl (by kernel_rfl) (by kernel_rfl) (by kernel_rfl) (fun _ _ _ h => h) (Or.inl ⟨by kernel_rfl, ?_⟩) hS ?_; rotate_left 1; (focus ((intro w' hS'; clear hS'; go_simp; try with_reducible rfl); done))
        try simp only [List.setIfInBounds_toArray, List.set_cons_zero, List.set_cons_succ]
        refine takeH (i := 2) (d := 45) (v := ?_) rfl rfl (by kernel_rfl) (by kernel_rfl) (by kernel_rfl) (fun _ _ _ h => h) (Or.inl ⟨by kernel_rfl, ?_⟩) hS ?_; rotate_left 1; (focus ((intro w' hS'; clear hS'; go_simp; try with_reducible rfl); done))
        try simp only [List.setIfInBounds_toArray, List.set_cons_zero, List.set_cons_succ]
        refine wpAnyH_ready (rs := [3]) (by kernel_rfl) (by simp) ?_
        refine AllReadyH.cons rfl (fun K hK => ?_) AllReadyH.nil
        go_simp
        refine (rsz_any _ R s.1 s.2 (RR.out.1.kept (Below.refl _ _).drew) RR.out.2.1 RR.out.2.2.1).mono ?_
        rintro x w11 ⟨v, rfl, hv, hr, ho⟩
        have V11 := bx hv; have O11 := bx ((O.out.kept (Below.refl _ _).drew).only ho (Nat.lt_succ_self R)); have K11 := bx ((ho.block _ (blk_lt hS.1) (by have := RW.out; omega)).trans hS.1); have B11 := bx (hS.2.trans (ho.below hS.2.size (Nat.le_of_lt RW.out)))
        clear hv hr ho
        refine hK.out _ _ ?_ (fun hS2 => ?_)
        · exact ⟨K11.out, B11.out⟩
        clear hK K hS; have hS := hS2; clear hS2
        try simp only [Act.put, List.setIfInBounds_toArray, List.set_cons_zero, List.set_cons_succ]
        refine wpAnyH_ready (rs := [4]) (by kernel_rfl) (by simp) ?_
        refine readyH_list rfl (fun K hK => ?_) AllReadyH.nil
        refine store_all (cs := coreCells c k i g nm) 187 (.tmp 4) (.tmp 43) rfl rfl rfl rfl K11.out (IC.out g) rfl (core_one _ _ _ _ _) ?_
        intro w12 hu12
        show wpList _ _ K [] (Act.put _ none undef) w12
        refine hK.out _ _ ?_ (fun hS2 => ?_)
        · exact ⟨hu12.same, hS.2.trans (hu12.below (Nat.le_refl _))⟩
        clear hK K hS; have hS := hS2; clear hS2
        try simp only [Act.put, List.setIfInBounds_toArray, List.set_cons_zero, List.set_cons_succ]
        refine takeH (i := 5) (d := 5) (v := ?_) rfl rfl (by kernel_rfl) (by kernel_rfl) (by kernel_rfl) (fun _ _ _ h => h) (Or.inl ⟨by kernel_rfl, ?_⟩) hS ?_; rotate_left 1; (focus ((intro w' hS'; clear hS'; go_simp; try with_reducible rfl); done))
        try simp only [List.setIfInBounds_toArray, List.set_cons_zero, List.set_cons_succ]
        refine takeH (i := 6) (d := 6) (v := ?_) rfl rfl (by kernel_rfl) (by kernel_rfl) (by kernel_rfl) (fun _ _ _ h => h) (Or.inl ⟨by kernel_rfl, ?_⟩) hS ?_; rotate_left 1; (focus ((intro w' hS'; clear hS'; go_simp; try with_reducible rfl); done))
        try simp only [List.setIfInBounds_toArray, List.set_cons_zero, List.set_cons_succ]
        refine wpAnyH_done (by kernel_rfl) ?_ _
        have O12 := bx (O11.out.upd hu12 (by have := RW.out; omega)); have V12 := bx (V11.out.upd hu12 (by have := BB.out.size; have := blk_lt KK.out; simp; omega)); have K12 := bx hu12.same; have B12 := bx hS.2
        clear hu12 hS hS0
        go_wp2_with fail
        refine bodyPost_ret (results_ctt (cs := coreCells c k i g nm) rfl _ _ w.heap.size 187 _ _ _ rfl rfl rfl K12.out Try.underlying187 rfl (IC.out g)) rfl ?_
        exact ⟨_, _, _, rfl, O12.out.base_le (by have := RW.out; omega), V12.out.base_le (by simpa using BB.out.size), B12.out⟩
      · have hwq : (rWrong s.2 == 0) = true := by simp [hw]
        have e1 : (0 : Int) < (m' : Int) + 1 := by omega
        have e2 : IntKind.u64.wrap ((m' : Int) + 1 - 1) = m' := by rw [IntWalk.u64_in _ (by omega)]; omega
        have FF := bx hfl; have TT := bx ht
        clear hfl ht
        go_wp2_with fail
        refine HWr.out.mono ?_
        rintro x w9 ⟨rfl, rfl⟩
        go_wp2_with fail
        refine (nameS_any wr R s RR.out).mono ?_
        rintro x w11 ⟨rfl, hR, ho⟩
        have R11 := bx hR; have O11 := bx (O.out.only ho (Nat.lt_succ_self R)); have K11 := bx ((ho.block _ (blk_lt KK.out) (by have := RW.out; omega)).trans KK.out); have B11 := bx (BB.out.trans (ho.below BB.out.size (Nat.le_of_lt RW.out)))
        have RL := bx hR.1.lt
        clear hR ho
        go_wp2_with (first
          | ((with_reducible refine at_bs 41 ?_); go_must (refine wpList_bs rfl 114 113 1 [(0, .tmp 40)] rfl 41 rfl Try.underlying114 _ rfl (ints .u8 (nmS s)) (name_slice (nmS s) (nmS_length s)) ?_))
          | ((with_reducible refine at_call 42 ?_); go_must (refine wpList_app1N rfl (.tmp 38) (.tmp 41) rfl (R + 1) _ na acc rfl (O11.out.alloc _) w11.heap.size 1 (nmS s) rfl (blk_new w11 _) (nmS_length s) (by omega) (by have := RL.out; simp; omega) ?_; intro v' w' h1 h2; have O13 := bx h1; have R13 : Bx (RdS w0.heap.size w' R (stepR s 16)) := ⟨(R11.out.1.kept ((Below.refl _ _).alloc (Nat.le_refl _) _)).grown (O11.out.alloc _) h2 (Nat.lt_succ_self R), R11.out.2⟩; have K13 := bx (blk_grown (blk_alloc K11.out) (O11.out.alloc _) h2 (by have := RW.out; omega)); have B13 := bx ((O11.out.alloc _).below h2 (B11.out.alloc B11.out.size _) (by have := RW.out; omega) (by have := B11.out.size; simp; omega)); clear h1 h2)))
        go_roundw
        case rel => exact ⟨m', na + 1, stepR s 16, acc ++ nmS s, by first | rfl | go_num, by omega, O13.out, R13.out, FF.out, TT.out, K13.out, B13.out⟩
        case measure => simp only [intOf]; omega
end Go.Proofs.Ythnommoljikaiaa
