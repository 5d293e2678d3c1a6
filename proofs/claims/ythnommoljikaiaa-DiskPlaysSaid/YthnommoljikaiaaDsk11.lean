/- The law DiskTorn returns true, whatever was and is written, and however much of it is kept. -/
import Derived.Test.YthnommoljikaiaaDsk10
import Derived.Test.YthnommoljikaiaaOpenB
set_option linter.unusedSimpArgs false
set_option linter.unusedVariables false
namespace Go.Proofs.Ythnommoljikaiaa
open Go.RowKit

theorem str_append (a b : List Int) : strOfNums (a ++ b) = strOfNums a ++ strOfNums b := by
  apply ByteArray.ext
  apply Array.toList_inj.1
  rw [strOfNums_data, ByteArray.data_append, Array.toList_append, strOfNums_data, strOfNums_data, List.map_append]
theorem str_size (a : List Int) : (strOfNums a).size = a.length := by
  have := congrArg List.length (strOfNums_data a)
  rw [List.length_map, Array.length_toList] at this
  exact this
theorem rdB_rest {w : World} {A : Option Addr} {n cap : Nat} {bs : List Int} (l : Nat) (h : RdB w A n bs) (hl : l ≤ n) (hc : n ≤ cap) : RdB w (if cap = l then A else A.map (·.add l)) (n - l) (bs.drop l) := by
  refine ⟨by rw [List.length_drop, h.1], fun hn => ?_⟩
  obtain ⟨b, o, rfl, hb, hcell⟩ := h.2 (by omega)
  rw [if_neg (by omega)]
  refine ⟨b, o + l, by rw [Option.map_some, addr_add], hb, fun j hj => ?_⟩
  rw [Nat.add_assoc, hcell (l + j) (by omega)]
  simp [List.getD_eq_getElem?_getD]
theorem DskIs.restrict {w : World} {S : Nat → Prop} {D : Nat} {st : DSt} (h : DskIs w S D st) : DskIs w (fun k => S k ∧ k < w.heap.size) D st := by
  obtain ⟨mb, uv, h⟩ := h
  exact ⟨mb, uv, h.blk, h.map, h.und, ⟨h.inD, h.lt D (.inl rfl)⟩, ⟨h.inM, h.lt mb (.inr (.inl rfl))⟩, fun k hk => ⟨h.inU k hk, h.lt k (.inr (.inr hk))⟩, h.secs, h.unds, h.lo, h.hi, h.n1, h.n2⟩
theorem RdB.only {w w' : World} {S : Nat → Prop} {A : Option Addr} {n cap : Nat} {bs : List Int} (h : RdB w A n bs) (ho : Only S w w') (hne : ∀ k, (Value.slice A n cap).ownBlock = some k → ¬ S k) : RdB w' A n bs :=
  ⟨h.1, fun hn => by
    obtain ⟨b, o, rfl, hb, hc⟩ := h.2 hn
    exact ⟨b, o, rfl, Nat.lt_of_lt_of_le hb ho.size, fun j hj => by rw [← hc j hj]; exact World.cell?_of_block (w := w) (a := ⟨b, o + j, none⟩) (ho.block b hb (hne b rfl))⟩⟩
theorem sync_up {st : DSt} (hd : st.down = false) (hl : st.left = -1) (h1 : 1 ≤ st.n) : syncOf st = (settled st fun _ => 256, 0) := by
  obtain ⟨n, f, und, left, down⟩ := st
  dsimp only at hd hl h1
  subst hd hl
  rw [syncOf, may_up rfl (by decide) (by show (0 : Int) < n; omega), if_neg (fun h => h rfl), if_neg (by show ¬ ((0 : Int) ≠ 0); decide)]
  rfl
theorem safe_up {st : DSt} {i : Int} (h0 : 0 ≤ i) (h1 : i < st.n) : safeOf st i = (st.f i, 0) := by rw [safeOf, if_neg (by omega)]
/-- What becomes of this law's disk. -/
def tornA (p : List Int) : DSt := ⟨3, fun _ => zeros256, [(1, p), (2, p)], -1, false⟩
def tornB (p q : List Int) : DSt := ⟨3, (settled (tornA p) fun _ => 256).f, [(1, q)], -1, false⟩
theorem torn_settled {p : List Int} (hp : p.length = 256) : settled (tornA p) (fun _ => 256) = ⟨3, (settled (tornA p) fun _ => 256).f, [], -1, false⟩ := by
  have h := settleUp_rest (tornA p) (fun _ => 256) 2
  show ({ settleUp (tornA p) (fun _ => 256) 2 with und := [] } : DSt) = _
  cases hs : settleUp (tornA p) (fun _ => 256) 2
  rw [hs] at h
  dsimp only at h
  obtain ⟨h1, h2, h3, h4⟩ := h
  subst h2 h3 h4
  show _ = (⟨3, (settled (tornA p) fun _ => 256).f, [], -1, false⟩ : DSt)
  rw [settled]
  show _ = (⟨3, (settleUp (tornA p) (fun _ => 256) 2).f, [], -1, false⟩ : DSt)
  rw [hs]
  rfl
theorem settle_f {st : DSt} {a : Int} {b : List Int} (hb : b.length = 256) (hf : (st.f a).length = 256) (k : Int) : (settleOf st a b 256).f k = if k = a then b else st.f k := by
  rw [settleOf, if_neg (by decide)]
  show (if k = a then _ else _) = _
  have e : (min (256 : Int) 256).toNat = 256 := by decide
  rw [e, List.take_of_length_le (by omega), List.drop_of_length_le (by omega), List.append_nil]
theorem torn_f {p : List Int} (hp : p.length = 256) : (settled (tornA p) fun _ => 256).f 1 = p ∧ (settled (tornA p) fun _ => 256).f 2 = p := by
  have h1 : ∀ k, (settleUp (tornA p) (fun _ => 256) 1).f k = if k = 1 then p else zeros256 := fun k => by
    rw [settleUp_succ _ _ 0 (by show 0 < 2; decide)]
    exact settle_f hp zeros_ok.1 k
  have h2 : ∀ k, (settleUp (tornA p) (fun _ => 256) 2).f k = if k = 2 then p else if k = 1 then p else zeros256 := fun k => by
    rw [settleUp_succ _ _ 1 (by show 1 < 2; decide)]
    show (settleOf _ 2 p 256).f k = _
    rw [settle_f hp (by rw [h1, if_neg (by decide)]; exact zeros_ok.1), h1]
  exact ⟨(h2 1).trans (by simp), (h2 2).trans (by simp)⟩
/-- How much is kept. -/
def keptOf (N : Int) : Nat := (min (max N 0) 256).toNat
theorem torn_fall {p q : List Int} (N : Int) (hp : p.length = 256) (hq : q.length = 256) : ∃ f, fallOf (tornB p q) [N] = ⟨3, f, [], -1, false⟩ ∧ f 1 = q.take (keptOf N) ++ p.drop (keptOf N) ∧ f 2 = p := by
  have h1 := torn_f hp
  refine ⟨(settleOf (tornB p q) 1 q N).f, fall_one 3 (settled (tornA p) fun _ => 256).f 1 q (-1) false N, ?_, ?_⟩
  · rw [settleOf]
    by_cases hN : N ≤ 0
    · rw [if_pos hN, keptOf, show (min (max N 0) 256).toNat = 0 by omega]
      show (settled (tornA p) fun _ => 256).f 1 = _
      rw [h1.1]
      simp
    · rw [if_neg hN, keptOf, show min (max N 0) 256 = min N 256 by omega]
      show (if (1 : Int) = 1 then q.take (min N 256).toNat ++ ((settled (tornA p) fun _ => 256).f 1).drop (min N 256).toNat else (tornB p q).f 1) = _
      rw [if_pos rfl, h1.1]
  · rw [settleOf]
    by_cases hN : N ≤ 0
    · rw [if_pos hN]; exact h1.2
    · rw [if_neg hN]
      show (if (2 : Int) = 1 then q.take (min N 256).toNat ++ ((settled (tornA p) fun _ => 256).f 1).drop (min N 256).toNat else (settled (tornA p) fun _ => 256).f 2) = _
      rw [if_neg (by decide)]
      exact h1.2

set_option maxRecDepth 100000 in
set_option maxHeartbeats 4000000 in
theorem torn_any (s t : Sl) (N : Int) (w : World) (hs : s.Full w) (ht : t.Full w) :
    Calls Try.prog 3 #[s.val, t.val, .int .i64 N] w fun e w' => e = .returned (.bool true) ∧ Below w.heap.size w w' := by
  obtain ⟨A, n, cap, bs⟩ := s
  obtain ⟨A2, n2, cap2, xs⟩ := t
  obtain ⟨⟨hr1, hB1, hc1⟩, hn1, _⟩ := hs
  obtain ⟨⟨hr2, hB2, hc2⟩, hn2, _⟩ := ht
  dsimp only at hr1 hB1 hc1 hr2 hB2 hc2 hn1 hn2
  show Calls Try.prog 3 #[.slice A n cap, .slice A2 n2 cap2, .int .i64 N] w _
  have HR1 := bx hr1; have HB1 := bx hB1; have HR2 := bx hr2; have HB2 := bx hB2
  have HL1 := bx hr1.1; have HL2 := bx hr2.1
  clear hr1 hB1 hr2 hB2 hn1 hn2
  by_cases hlong : 256 < n ∨ 256 < n2
  · by_cases h1 : 256 < n
    · have h1' : (256 : Int) < n := by omega
      go_enter Try.func3, Try.ntmps3
      go_wp2_with fail
      go_ret
      exact ⟨rfl, Below.refl _ _⟩
    · have h1' : ¬ (256 : Int) < n := by omega
      have h2' : (256 : Int) < n2 := by omega
      go_enter Try.func3, Try.ntmps3
      go_wp2_with fail
      go_ret
      exact ⟨rfl, Below.refl _ _⟩
  · have h1 : ¬ (256 : Int) < n := by omega
    have h2 : ¬ (256 : Int) < n2 := by omega
    have hl1 : bs.length ≤ 256 := by rw [HL1.out]; omega
    have hl2 : xs.length ≤ 256 := by rw [HL2.out]; omega
    have HPO := bx (padTo_ok hl1 HB1.out); have HQO := bx (padTo_ok hl2 HB2.out)
    have HW1 : Bx (writeOf (dst0 3) 1 bs = (⟨3, fun _ => zeros256, [(1, padTo bs)], -1, false⟩, 0)) := ⟨write_up (st := dst0 3) rfl rfl (by decide) (by decide) hl1⟩
    have HW2 : Bx (writeOf ⟨3, fun _ => zeros256, [(1, padTo bs)], -1, false⟩ 2 bs = (tornA (padTo bs), 0)) := ⟨write_up (st := ⟨3, fun _ => zeros256, [(1, padTo bs)], -1, false⟩) rfl rfl (by decide) (by show (2 : Int) < 3; decide) hl1⟩
    have HSY : Bx (syncOf (tornA (padTo bs)) = (⟨3, (settled (tornA (padTo bs)) fun _ => 256).f, [], -1, false⟩, 0)) := ⟨by rw [sync_up rfl rfl (by show (1 : Int) ≤ 3; decide), torn_settled HPO.out.1]⟩
    have HW3 : Bx (writeOf ⟨3, (settled (tornA (padTo bs)) fun _ => 256).f, [], -1, false⟩ 1 xs = (tornB (padTo bs) (padTo xs), 0)) := ⟨write_up (st := ⟨3, (settled (tornA (padTo bs)) fun _ => 256).f, [], -1, false⟩) rfl rfl (by decide) (by show (1 : Int) < 3; decide) hl2⟩
    have HTF := bx (torn_f HPO.out.1)
    have HSA : Bx (safeOf (tornB (padTo bs) (padTo xs)) 1 = (padTo bs, 0)) := ⟨by rw [safe_up (by decide) (by show (1 : Int) < 3; decide)]; exact congrArg (·, 0) HTF.out.1⟩
    have HRN : Bx (readD (tornB (padTo bs) (padTo xs)) 1 = (padTo xs, 0)) := ⟨by rw [read_up rfl (by decide) (by show (1 : Int) < 3; decide)]; rfl⟩
    obtain ⟨f, hf0, hf1, hf2⟩ := torn_fall N HPO.out.1 HQO.out.1
    have HFA := bx hf0
    have HRG : Bx (readD ⟨3, f, [], -1, false⟩ 1 = ((padTo xs).take (keptOf N) ++ (padTo bs).drop (keptOf N), 0)) := ⟨by rw [read_up rfl (by decide) (by show (1 : Int) < 3; decide), ← hf1]; rfl⟩
    have HRO : Bx (readD ⟨3, f, [], -1, false⟩ 2 = (padTo bs, 0)) := ⟨by rw [read_up rfl (by decide) (by show (2 : Int) < 3; decide)]; exact congrArg (·, 0) hf2⟩
    obtain ⟨k, hk⟩ : ∃ k, keptOf N = k := ⟨_, rfl⟩
    have hmm : min (max N 0) 256 = (k : Int) := by rw [← hk, keptOf]; omega
    have hk2 : k ≤ 256 := by rw [← hk, keptOf]; omega
    rw [hk] at HRG
    have HST := bx (str_append ((padTo xs).take k) ((padTo bs).drop k))
    clear hf0 hf1 hf2 hk hl1 hl2 hlong
    generalize hfs : (settled (tornA (padTo bs)) fun _ => 256).f = fs at *
    clear hfs HTF
    generalize hta : tornA (padTo bs) = ta at *
    generalize htb : tornB (padTo bs) (padTo xs) = tb at *
    have HUA : Bx (ta.und.length ≤ 100000) := ⟨by rw [← hta]; show 2 ≤ 100000; decide⟩
    have HUB : Bx (tb.und.length ≤ 100000) := ⟨by rw [← htb]; show 1 ≤ 100000; decide⟩
    clear hta htb
    generalize padTo bs = p at *
    generalize padTo xs = q at *
    have hSS : ∀ w' : World, w.heap.size ≤ w'.heap.size → ∀ j, w'.heap.size ≤ j → w.heap.size ≤ j := fun w' h j hj => by omega
    have HSS := bx hSS
    clear hSS
    go_enter Try.func3, Try.ntmps3
    go_wp2_with fail
    refine (dnew_any w 3 (by decide) (by decide)).mono ?_
    rintro e w1 ⟨D, rfl, hd1, hb1⟩
    have HD1 := bx hd1; have B1 := bx hb1
    clear hd1 hb1
    go_wp2_with fail
    refine (dwrite_any _ (fun k => w.heap.size ≤ k) D (dst0 3) 1 A n cap bs HD1.out (HSS.out _ B1.out.size) (HR1.out.below B1.out) HB1.out (by decide)).mono ?_
    rintro e w2 ⟨rfl, hd2, ho2⟩
    rw [HW1.out] at hd2 ⊢
    have HD2 := bx hd2; have B2 := bx (B1.out.trans (ho2.below B1.out.size (fun k hk => hk)))
    clear hd2 ho2
    go_wp2_with fail
    refine (dwrite_any _ (fun k => w.heap.size ≤ k) D _ 2 A n cap bs HD2.out (HSS.out _ B2.out.size) (HR1.out.below B2.out) HB1.out (by show 1 ≤ 100000; decide)).mono ?_
    rintro e w3 ⟨rfl, hd3, ho3⟩
    rw [HW2.out] at hd3 ⊢
    have HD3 := bx hd3; have B3 := bx (B2.out.trans (ho3.below B2.out.size (fun k hk => hk)))
    clear hd3 ho3
    go_wp2_with fail
    refine (dsync_any _ (fun k => w.heap.size ≤ k) D ta HD3.out HUA.out).mono ?_
    rintro e w4 ⟨rfl, hd4, ho4⟩
    rw [HSY.out] at hd4 ⊢
    have HD4 := bx hd4; have B4 := bx (B3.out.trans (ho4.below B3.out.size (fun k hk => hk)))
    clear hd4 ho4
    go_wp2_with fail
    refine (dwrite_any _ (fun k => w.heap.size ≤ k) D _ 1 A2 n2 cap2 xs HD4.out (HSS.out _ B4.out.size) (HR2.out.below B4.out) HB2.out (by show 0 ≤ 100000; decide)).mono ?_
    rintro e w5 ⟨rfl, hd5, ho5⟩
    rw [HW3.out] at hd5 ⊢
    have HD5 := bx hd5; have B5 := bx (B4.out.trans (ho5.below B4.out.size (fun k hk => hk)))
    clear hd5 ho5
    go_wp2_with fail
    refine (dsafe_any _ (fun k => w.heap.size ≤ k) D tb 1 HD5.out).mono ?_
    rintro e w6 ⟨v, rfl, hv6, hfr6, hb6⟩
    rw [HSA.out] at hv6 ⊢
    obtain ⟨A6, c6, rfl, hr6, hc6, hn6⟩ := hv6
    dsimp only at hr6 hc6
    rw [HPO.out.1] at hr6 hc6 hfr6 ⊢
    have R6 := bx hr6; have B6 := bx (B5.out.trans (hb6.mono B5.out.size)); have HD6 := bx (HD5.out.kept hb6); have HD6' := bx (HD5.out.restrict.kept hb6); have F6 := bx hfr6; have S6 := bx hb6.size
    clear hr6 hb6 hn6 hfr6
    go_wp2_with fail
    refine (dread_any _ (fun k => w.heap.size ≤ k) D tb 1 HD6.out HUB.out).mono ?_
    rintro e w7 ⟨v, rfl, hv7, hfr7, hb7⟩
    rw [HRN.out] at hv7 ⊢
    obtain ⟨A7, c7, rfl, hr7, hc7, hn7⟩ := hv7
    dsimp only at hr7 hc7
    rw [HQO.out.1] at hr7 hc7 hfr7 ⊢
    have R7 := bx hr7; have R67 := bx (R6.out.below hb7); have B7 := bx (B6.out.trans (hb7.mono B6.out.size)); have HD7 := bx (HD6'.out.kept hb7); have F7 := bx hfr7; have S7 := bx hb7.size
    have HRI := bx (rdI_made w7 32 N)
    clear hr7 hb7 hn7 R6 hfr7
    go_wp2_with fail
    refine (dfall_any _ (fun k => w.heap.size ≤ k ∧ k < w5.heap.size) D tb (some ⟨w7.heap.size, 0, none⟩) 1 1 [N] (HD7.out.kept ((Below.refl _ _).alloc (Nat.le_refl _) _)) HRI.out HUB.out (by decide)).mono ?_
    rintro e w8 ⟨rfl, hd8, ho8⟩
    rw [HFA.out] at hd8
    have HD8 := bx hd8
    have B8 := bx ((B7.out.alloc B7.out.size _).trans (ho8.below (by have := B7.out.size; simp; omega) (fun k hk => hk.1)))
    have R7 := bx ((R7.out.below ((Below.refl _ _).alloc (Nat.le_refl _) _)).only (cap := c7) ho8 (fun k hk hS => by have := F7.out k hk; have := S6.out; omega))
    have R6 := bx ((R67.out.below ((Below.refl _ _).alloc (Nat.le_refl _) _)).only (cap := c6) ho8 (fun k hk hS => by have := F6.out k hk; omega))
    have R67 := 0
    clear hd8 ho8 R67
    go_wp2_with fail
    refine (dread_any _ _ D _ 1 HD8.out (by show 0 ≤ 100000; decide)).mono ?_
    rintro e w9 ⟨v, rfl, hv9, _, hb9⟩
    rw [HRG.out] at hv9 ⊢
    obtain ⟨A9, c9, rfl, hr9, hc9, hn9⟩ := hv9
    dsimp only at hr9 hc9
    have HGL : Bx ((q.take k ++ p.drop k).length = 256) := ⟨by rw [List.length_append, List.length_take, List.length_drop, HPO.out.1, HQO.out.1]; omega⟩
    rw [HGL.out] at hr9 hc9 ⊢
    have R9 := bx hr9; have B9 := bx (B8.out.trans (hb9.mono B8.out.size)); have HD9 := bx (HD8.out.kept hb9)
    have R79 := bx (R7.out.below hb9); have R69 := bx (R6.out.below hb9)
    clear hr9 hb9 hn9 R7 R6
    go_wp2_with fail
    refine (dread_any _ _ D _ 2 HD9.out (by show 0 ≤ 100000; decide)).mono ?_
    rintro e w10 ⟨v, rfl, hv10, _, hb10⟩
    rw [HRO.out] at hv10 ⊢
    obtain ⟨A10, c10, rfl, hr10, hc10, hn10⟩ := hv10
    dsimp only at hr10 hc10
    rw [HPO.out.1] at hr10 hc10 ⊢
    have B10 := bx (B9.out.trans (hb10.mono B9.out.size))
    have R9' := bx (R9.out.below hb10); have R7' := bx (R79.out.below hb10); have R6' := bx (R69.out.below hb10)
    have st1 := str_of hr10 c10
    have st2 := str_of R6'.out c6
    obtain ⟨A5, hA5⟩ : ∃ A5, (if c6 = k then A6 else A6.map (·.add k)) = A5 := ⟨_, rfl⟩
    have sl1 := fun w => sl_l Try.underlying22 Try.sizeOf5 A6 256 c6 k hk2 .i64 (k : Int) rfl w
    have sl2 := fun w => sl_h Try.underlying22 Try.sizeOf5 A7 256 c7 k (by omega) .i64 (k : Int) rfl w
    have hr5 := rdB_rest k R6'.out hk2 hc6
    rw [hA5] at sl1 hr5
    have HT : Bx (∀ w', Below w10.heap.size w10 w' → (convert 22 9 (.slice A9 256 c9)).run Try.prog w' = .ok (.string (strOfNums (q.take k ++ p.drop k))) w' ∧ (convert 22 9 (.slice A7 k c7)).run Try.prog w' = .ok (.string (strOfNums (q.take k))) w' ∧ (convert 22 9 (.slice A5 (256 - k) (c6 - k))).run Try.prog w' = .ok (.string (strOfNums (p.drop k))) w') :=
      ⟨fun w' hb => ⟨str_of (R9'.out.below hb) c9, str_of ((rdB_take k R7'.out hk2).below hb) c7, str_of (hr5.below hb) _⟩⟩
    rw [HST.out] at HT
    have hsz : ¬ 9223372036854775807 < (strOfNums (q.take k)).size + (strOfNums (p.drop k)).size := by rw [str_size, str_size, List.length_take, List.length_drop, HPO.out.1, HQO.out.1]; omega
    generalize strOfNums (q.take k) = sa at *
    generalize strOfNums (p.drop k) = sb at *
    generalize strOfNums p = sp at *
    clear hr10 hb10 hn10 hr5 hA5
    go_wp2_with fail
    have hS0 : Below w10.heap.size w10 w10.drew := (Below.refl _ _).drew
    refine wp_region_held_drew (S := (fun w' => Below w10.heap.size w10 w')) (by kernel_rfl) hS0 (fun hS => ?_)
    refine takeH (i := 0) (d := 108) (v := ?_) rfl rfl (by kernel_rfl) (by kernel_rfl) (by kernel_rfl) (fun _ _ _ h => h) (Or.inl ⟨by kernel_rfl, ?_⟩) hS ?_; rotate_left 1; (focus ((intro w' hS'; clear hS'; go_simp; try with_reducible rfl); done))
    try simp only [List.setIfInBounds_toArray, List.set_cons_zero, List.set_cons_succ]
    refine takeH (i := 1) (d := 109) (v := ?_) rfl rfl (by kernel_rfl) (by kernel_rfl) (by kernel_rfl) (fun _ _ _ h => h) (Or.inl ⟨by kernel_rfl, ?_⟩) hS ?_; rotate_left 1; (focus ((intro w' hS'; obtain ⟨k1, k2, k3⟩ := HT.out w' hS'; clear hS'; go_simp; try with_reducible rfl); done))
    try simp only [List.setIfInBounds_toArray, List.set_cons_zero, List.set_cons_succ]
    refine takeH (i := 2) (d := 110) (v := ?_) rfl rfl (by kernel_rfl) (by kernel_rfl) (by kernel_rfl) (fun _ _ _ h => h) (Or.inl ⟨by kernel_rfl, ?_⟩) hS ?_; rotate_left 1; (focus ((intro w' hS'; clear hS'; go_simp; try with_reducible rfl); done))
    try simp only [List.setIfInBounds_toArray, List.set_cons_zero, List.set_cons_succ]
    refine takeH (i := 3) (d := 111) (v := ?_) rfl rfl (by kernel_rfl) (by kernel_rfl) (by kernel_rfl) (fun _ _ _ h => h) (Or.inl ⟨by kernel_rfl, ?_⟩) hS ?_; rotate_left 1; (focus ((intro w' hS'; clear hS'; go_simp; try with_reducible rfl); done))
    try simp only [List.setIfInBounds_toArray, List.set_cons_zero, List.set_cons_succ]
    refine takeH (i := 4) (d := 112) (v := ?_) rfl rfl (by kernel_rfl) (by kernel_rfl) (by kernel_rfl) (fun _ _ _ h => h) (Or.inl ⟨by kernel_rfl, ?_⟩) hS ?_; rotate_left 1; (focus ((intro w' hS'; clear hS'; go_simp; try with_reducible rfl); done))
    try simp only [List.setIfInBounds_toArray, List.set_cons_zero, List.set_cons_succ]
    refine takeH (i := 5) (d := 113) (v := ?_) rfl rfl (by kernel_rfl) (by kernel_rfl) (by kernel_rfl) (fun _ _ _ h => h) (Or.inl ⟨by kernel_rfl, ?_⟩) hS ?_; rotate_left 1; (focus ((intro w' hS'; obtain ⟨k1, k2, k3⟩ := HT.out w' hS'; clear hS'; go_simp; try with_reducible rfl); done))
    try simp only [List.setIfInBounds_toArray, List.set_cons_zero, List.set_cons_succ]
    refine takeH (i := 6) (d := 114) (v := ?_) rfl rfl (by kernel_rfl) (by kernel_rfl) (by kernel_rfl) (fun _ _ _ h => h) (Or.inl ⟨by kernel_rfl, ?_⟩) hS ?_; rotate_left 1; (focus ((intro w' hS'; clear hS'; go_simp; try with_reducible rfl); done))
    try simp only [List.setIfInBounds_toArray, List.set_cons_zero, List.set_cons_succ]
    refine takeH (i := 7) (d := 115) (v := ?_) rfl rfl (by kernel_rfl) (by kernel_rfl) (by kernel_rfl) (fun _ _ _ h => h) (Or.inl ⟨by kernel_rfl, ?_⟩) hS ?_; rotate_left 1; (focus ((intro w' hS'; clear hS'; go_simp; try with_reducible rfl); done))
    try simp only [List.setIfInBounds_toArray, List.set_cons_zero, List.set_cons_succ]
    refine takeH (i := 8) (d := 116) (v := ?_) rfl rfl (by kernel_rfl) (by kernel_rfl) (by kernel_rfl) (fun _ _ _ h => h) (Or.inl ⟨by kernel_rfl, ?_⟩) hS ?_; rotate_left 1; (focus ((intro w' hS'; clear hS'; go_simp; try with_reducible rfl); done))
    try simp only [List.setIfInBounds_toArray, List.set_cons_zero, List.set_cons_succ]
    refine takeH (i := 9) (d := 117) (v := ?_) rfl rfl (by kernel_rfl) (by kernel_rfl) (by kernel_rfl) (fun _ _ _ h => h) (Or.inl ⟨by kernel_rfl, ?_⟩) hS ?_; rotate_left 1; (focus ((intro w' hS'; obtain ⟨k1, k2, k3⟩ := HT.out w' hS'; clear hS'; go_simp; try with_reducible rfl); done))
    try simp only [List.setIfInBounds_toArray, List.set_cons_zero, List.set_cons_succ]
    refine takeH (i := 10) (d := 118) (v := ?_) rfl rfl (by kernel_rfl) (by kernel_rfl) (by kernel_rfl) (fun _ _ _ h => h) (Or.inl ⟨by kernel_rfl, ?_⟩) hS ?_; rotate_left 1; (focus ((intro w' hS'; clear hS'; go_simp; try with_reducible rfl); done))
    try simp only [List.setIfInBounds_toArray, List.set_cons_zero, List.set_cons_succ]
    refine takeH (i := 11) (d := 119) (v := ?_) rfl rfl (by kernel_rfl) (by kernel_rfl) (by kernel_rfl) (fun _ _ _ h => h) (Or.inl ⟨by kernel_rfl, ?_⟩) hS ?_; rotate_left 1; (focus ((intro w' hS'; clear hS'; go_simp; try with_reducible rfl); done))
    try simp only [List.setIfInBounds_toArray, List.set_cons_zero, List.set_cons_succ]
    refine takeH (i := 12) (d := 120) (v := ?_) rfl rfl (by kernel_rfl) (by kernel_rfl) (by kernel_rfl) (fun _ _ _ h => h) (Or.inl ⟨by kernel_rfl, ?_⟩) hS ?_; rotate_left 1; (focus ((intro w' hS'; clear hS'; go_simp; try with_reducible rfl); done))
    try simp only [List.setIfInBounds_toArray, List.set_cons_zero, List.set_cons_succ]
    refine wpAnyH_ready (rs := [13]) (by kernel_rfl) (by simp) ?_
    refine AllReadyH.cons rfl (fun K hK => ?_) AllReadyH.nil
    go_simp
    refine (one14_any _).mono ?_
    rintro e w12 ⟨rfl, hb12⟩
    have HB12 := bx hb12
    clear hb12
    refine hK.out _ _ ?_ (fun hS2 => ?_)
    · exact hS.trans (HB12.out.mono hS.size)
    clear hK K hS; have hS := hS2; clear hS2
    try simp only [Act.put, List.setIfInBounds_toArray, List.set_cons_zero, List.set_cons_succ]
    refine takeH (i := 14) (d := 122) (v := ?_) rfl rfl (by kernel_rfl) (by kernel_rfl) (by kernel_rfl) (fun _ _ _ h => h) (Or.inl ⟨by kernel_rfl, ?_⟩) hS ?_; rotate_left 1; (focus ((intro w' hS'; clear hS'; go_simp; try with_reducible rfl); done))
    try simp only [List.setIfInBounds_toArray, List.set_cons_zero, List.set_cons_succ]
    refine takeH (i := 15) (d := 6) (v := ?_) rfl rfl (by kernel_rfl) (by kernel_rfl) (by kernel_rfl) (fun _ _ _ h => h) (Or.inl ⟨by kernel_rfl, ?_⟩) hS ?_; rotate_left 1; (focus ((intro w' hS'; clear hS'; go_simp; try with_reducible rfl); done))
    try simp only [List.setIfInBounds_toArray, List.set_cons_zero, List.set_cons_succ]
    refine wpAnyH_done (by kernel_rfl) ?_ _
    have B12 := bx (B10.out.trans (hS.mono B10.out.size))
    clear hS hS0
    go_wp2_with fail
    go_ret
    exact ⟨rfl, B12.out⟩
end Go.Proofs.Ythnommoljikaiaa
