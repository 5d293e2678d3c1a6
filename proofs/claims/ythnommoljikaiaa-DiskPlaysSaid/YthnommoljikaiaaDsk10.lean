/- The disk that is known: a write that is torn. -/
import Derived.Test.YthnommoljikaiaaDsk9
set_option linter.unusedSimpArgs false
set_option linter.unusedVariables false
namespace Go.Proofs.Ythnommoljikaiaa
open Go.RowKit

def dst0 (n : Int) : DSt := ⟨n, fun _ => zeros256, [], -1, false⟩
theorem may_up {st : DSt} {i : Int} (hd : st.down = false) (h0 : 0 ≤ i) (h1 : i < st.n) : mayOf st i = 0 := by rw [mayOf, hd, if_neg (by simp), if_neg (by omega)]
theorem call_unarmed (d : Bool) : callOf (-1) d = (-1, d, 0) := rfl
/-- A write of a disk that is up and not armed. -/
theorem write_up {st : DSt} {i : Int} {bs : List Int} (hd : st.down = false) (hl : st.left = -1) (h0 : 0 ≤ i) (h1 : i < st.n) (hb : bs.length ≤ 256) : writeOf st i bs = ({ st with und := st.und ++ [(i, padTo bs)] }, 0) := by
  obtain ⟨n, f, und, left, down⟩ := st
  dsimp only at hd hl h1
  subst hd hl
  rw [writeOf, may_up rfl h0 h1, if_neg (fun h => h rfl), if_neg (by omega)]
  rfl
theorem rdI_made (w : World) (T : TypeId) (x : Int) : RdI (w.alloc (.cells #[.int .i64 x] T)) (some ⟨w.heap.size, 0, none⟩) 1 [x] :=
  ⟨rfl, fun _ => ⟨_, 0, rfl, by simp, fun j hj => by
    obtain rfl : j = 0 := by omega
    exact blk_cell (blk_new w _) rfl⟩⟩
theorem read_up {st : DSt} {i : Int} (hd : st.down = false) (h0 : 0 ≤ i) (h1 : i < st.n) : readD st i = (readUp st i st.und.length, 0) := by rw [readD, may_up hd h0 h1, if_neg (fun h => h rfl)]
theorem fall_one (n : Int) (f : Int → List Int) (a : Int) (b : List Int) (left : Int) (down : Bool) (x : Int) : fallOf ⟨n, f, [(a, b)], left, down⟩ [x] =
    ⟨n, (settleOf ⟨n, f, [(a, b)], left, down⟩ a b x).f, [], -1, false⟩ := by
  have h := settleUp_rest ⟨n, f, [(a, b)], left, down⟩ (fate [x]) 1
  have e : settleUp ⟨n, f, [(a, b)], left, down⟩ (fate [x]) 1 = settleOf ⟨n, f, [(a, b)], left, down⟩ a b x := rfl
  rw [e] at h
  show ({ (settleUp _ _ 1) with und := [], left := -1, down := false } : DSt) = _
  rw [e]
  cases hs : settleOf ⟨n, f, [(a, b)], left, down⟩ a b x
  rw [hs] at h
  dsimp only at h ⊢
  rw [h.2.1]

set_option maxRecDepth 100000 in
set_option maxHeartbeats 2000000 in
theorem one14_any (w : World) :
    Calls Try.prog 24 #[] w fun e w' => e = .returned (.bool true) ∧ Below w.heap.size w w' := by
  have hB : IsB [120, 121, 122] := isB_cons (by decide) (isB_cons (by decide) (isB_cons (by decide) isB_nil))
  have HB := bx hB
  have hw := write_up (st := dst0 2) (i := 1) (bs := [120, 121, 122]) rfl rfl (by decide) (by decide) (by decide)
  have HW := bx hw
  have hf : fallOf (writeOf (dst0 2) 1 [120, 121, 122]).1 [1] = ⟨2, (settleOf ⟨2, fun _ => zeros256, [(1, padTo [120, 121, 122])], -1, false⟩ 1 (padTo [120, 121, 122]) 1).f, [], -1, false⟩ := by
    rw [hw]
    exact fall_one 2 (fun _ => zeros256) 1 (padTo [120, 121, 122]) (-1) false 1
  have HF := bx hf
  have hr := read_up (st := fallOf (writeOf (dst0 2) 1 [120, 121, 122]).1 [1]) (i := 1) rfl (by decide) (by rw [hf]; show (1 : Int) < 2; decide)
  have hv : readD (fallOf (writeOf (dst0 2) 1 [120, 121, 122]).1 [1]) 1 = (120 :: List.replicate 255 0, 0) := by
    rw [hr, hf]
    rfl
  have HV := bx hv
  have hul : (fallOf (writeOf (dst0 2) 1 [120, 121, 122]).1 [1]).und.length ≤ 100000 := by rw [fallOf, settled]; decide
  have HUL := bx hul
  have HWC : Bx ((writeOf (dst0 2) 1 [120, 121, 122]).2 = 0) := ⟨by rw [HW.out]⟩
  have HWU : Bx ((writeOf (dst0 2) 1 [120, 121, 122]).1.und.length ≤ 100000) := ⟨by rw [HW.out]; show ([] ++ [_]).length ≤ 100000; decide⟩
  generalize hwo : writeOf (dst0 2) 1 [120, 121, 122] = wo at *
  have HWO := bx hwo
  generalize hfo : fallOf wo.1 [1] = fo at *
  have HFO := bx hfo
  clear hfo hB hw hf hr hv hul HW HF hwo
  have hcv := fun (w : World) (C : Array Value) (n c : Nat) => Lib.run_convert_bytes_const (P := Try.prog) w 22 5 C n c Try.underlying22 Try.underlying5
  go_enter Try.func24, Try.ntmps24
  go_wp2_with fail
  refine (dnew_any w 2 (by decide) (by decide)).mono ?_
  rintro e w1 ⟨D, rfl, hd1, hb1⟩
  have HD1 := bx hd1; have B1 := bx hb1
  have HRM := bx (rdB_mark w1 5 [120, 121, 122] (3, 4))
  clear hd1 hb1
  go_wp2_with fail
  refine (dwrite_any _ (fun k => w.heap.size ≤ k) D (dst0 2) 1 (some ⟨w1.heap.size, 0, none⟩) 3 3 [120, 121, 122] (HD1.out.kept ((Below.refl _ _).alloc (Nat.le_refl _) _)) (fun k hk => by have := B1.out.size; simp at hk; omega) HRM.out HB.out (by decide)).mono ?_
  rintro e w2 ⟨rfl, hd2, ho2⟩
  rw [HWO.out] at hd2 ⊢
  have HD2 := bx hd2; have B2 := bx ((B1.out.alloc B1.out.size _).trans (ho2.below (by have := B1.out.size; simp; omega) (fun k hk => hk)))
  have HRI := bx (rdI_made w2 32 1)
  clear hd2 ho2
  go_wp2_with fail
  refine (dfall_any _ (fun k => w.heap.size ≤ k) D wo.1 (some ⟨w2.heap.size, 0, none⟩) 1 1 [1] (HD2.out.kept ((Below.refl _ _).alloc (Nat.le_refl _) _)) HRI.out HWU.out (by decide)).mono ?_
  rintro e w3 ⟨rfl, hd3, ho3⟩
  rw [HFO.out] at hd3
  have HD3 := bx hd3; have B3 := bx ((B2.out.alloc B2.out.size _).trans (ho3.below (by have := B2.out.size; simp; omega) (fun k hk => hk)))
  clear hd3 ho3
  go_wp2_with fail
  refine (dread_any _ (fun k => w.heap.size ≤ k) D fo 1 HD3.out HUL.out).mono ?_
  rintro e w4 ⟨v, rfl, hv4, _, hb4⟩
  rw [HV.out] at hv4 ⊢
  obtain ⟨A, c, rfl, hr4, hc4, hn4⟩ := hv4
  dsimp only at hr4 hc4
  rw [show (120 :: List.replicate 255 (0 : Int)).length = 256 from by rw [List.length_cons, List.length_replicate]] at hr4 hc4 ⊢
  obtain ⟨b, o, rfl, hbl, hcs⟩ := hr4.2 (by decide)
  have x0 : w4.cell? ⟨b, o, none⟩ = some (.int .u8 120) := hcs 0 (by decide)
  have x1 : w4.cell? ⟨b, o + 1, none⟩ = some (.int .u8 0) := hcs 1 (by decide)
  have B4 := bx (B3.out.trans (hb4.mono B3.out.size))
  rw [HWC.out]
  clear hcs hr4 hn4 hb4
  go_wp2_with fail
  go_ret
  exact ⟨rfl, B4.out⟩
end Go.Proofs.Ythnommoljikaiaa
