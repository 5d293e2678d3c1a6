/- The walk over frame.Put. -/
import Derived.Test.YthnommoljikaiaaFrm1
set_option linter.unusedSimpArgs false
set_option linter.unusedVariables false
namespace Go.Proofs.Ythnommoljikaiaa
open Go.RowKit

/-- A frame's bytes ahead of its sum. -/
def frameHead (kind : Int) (bs : List Int) : List Int := [67, 70, 49] ++ [kind] ++ be bs.length 4 ++ bs
/-- A frame. -/
def frameOf (kind : Int) (bs : List Int) : List Int := frameHead kind bs ++ (shaOf (frameHead kind bs)).take 4
theorem frameHead_length (kind : Int) (bs : List Int) : (frameHead kind bs).length = bs.length + 8 := by simp [frameHead, be_length]; omega
theorem frameOf_length (kind : Int) (bs : List Int) : (frameOf kind bs).length = bs.length + 12 := by
  rw [frameOf, List.length_append, frameHead_length, List.length_take, shaOf_length]
  omega
theorem frameHead_isB {kind : Int} {bs : List Int} (hk : 0 ≤ kind ∧ kind < 256) (hb : IsB bs) : IsB (frameHead kind bs) :=
  isB_append (isB_append (isB_append (isB_cons (by decide) (isB_cons (by decide) (isB_cons (by decide) isB_nil))) (isB_cons hk isB_nil)) (be_isB _ _)) hb

set_option maxRecDepth 100000 in
set_option maxHeartbeats 800000 in
theorem fput_any (kind : Int) (A : Option Addr) (n cap : Nat) (bs : List Int) (w : World) (hk : 1 ≤ kind ∧ kind ≤ 255) (hrd : RdB w A n bs) (hnil : A = none → cap = 0) (hB : IsB bs) (hbig : n ≤ 65536) :
    Calls Try.prog 48 #[.int .i64 kind, .slice A n cap] w fun e w' => ∃ r, e = .returned (.tuple #[r, .int .i64 0]) ∧ OwB w' w.heap.size r (frameOf kind bs) ∧ Below w.heap.size w w' := by
  have HRD := bx hrd; have HNIL := bx hnil; have HB := bx hB
  have hn := hrd.1
  have HF : Bx (frameHead kind bs = [67, 70, 49] ++ [kind] ++ be n 4 ++ bs) := ⟨by rw [frameHead, hn]⟩
  have HFL : Bx ((frameHead kind bs).length = n + 8) := ⟨by rw [frameHead_length, hn]⟩
  have HFB := bx (frameHead_isB (kind := kind) ⟨by omega, by omega⟩ hB)
  have HFO : Bx (frameOf kind bs = frameHead kind bs ++ (shaOf (frameHead kind bs)).take 4) := ⟨rfl⟩
  generalize frameHead kind bs = F at *
  have hk1 : kind % 256 = kind := by omega
  obtain ⟨hk2, hk3⟩ := hk
  have HM := bx (rdB_mark w 5 [67, 70, 49] (3, 4))
  have HM2 := bx (HM.out.below ((Below.refl _ _).alloc (Nat.le_refl _) (.cells (ints .u8 [kind]) 5)))
  have HX : Bx (RdB ((w.alloc (.cells (ints .u8 [67, 70, 49]) 5 (3, 4))).alloc (.cells (ints .u8 [kind]) 5)) (some ⟨w.heap.size + 1, 0, none⟩) 1 [kind]) := ⟨by have := rdB_made (w.alloc (.cells (ints .u8 [67, 70, 49]) 5 (3, 4))) 5 [kind]; rw [World.size_alloc] at this; exact this⟩
  have B0 := bx (((Below.refl w.heap.size w).alloc (Nat.le_refl _) (.cells (ints .u8 [67, 70, 49]) 5 (3, 4))).alloc (by simp) (.cells (ints .u8 [kind]) 5))
  have hcv := fun (w : World) (C : Array Value) (n c : Nat) => Lib.run_convert_bytes_const (P := Try.prog) w 22 5 C n c Try.underlying22 Try.underlying5
  clear hrd hnil hB hn
  go_enter Try.func48, Try.ntmps48
  go_wp2_with (first
    | ((with_reducible refine at_call 23 ?_); go_must (refine wpList_appG rfl (.tmp 19) (.tmp 22) rfl (some ⟨w.heap.size, 0, none⟩) 3 3 [67, 70, 49] rfl HM2.out (fun h => by cases h) ⟨w.heap.size + 1, 0, none⟩ 1 1 [kind] rfl HX.out (by decide) (by decide) ?_; intro v1 w1 h1 h2; have B1 := bx (B0.out.grown h2 B0.out.size (fun k h => by cases h)); obtain ⟨A1, c1, rfl, hr1, hc1, hn1⟩ := h1.rdn (n := 4) rfl; have HR1 := bx hr1; have HN1 := bx hn1; clear h1 h2 hr1 hn1)))
  refine (sized_any A1 4 c1 ([67, 70, 49] ++ [kind]) A n cap bs _ HR1.out HN1.out (HRD.out.below B1.out) HNIL.out (by decide) (by omega)).mono ?_
  rintro e w2 ⟨r, rfl, ho, hb⟩
  rw [← HF.out] at ho
  have B2 := bx (B1.out.trans (hb.mono B1.out.size))
  have O2 := bx (ho.base_le B1.out.size)
  obtain ⟨A2, c2, rfl, hr2, hc2, hn2⟩ := ho.rdn HFL.out
  have HR2 := bx hr2; have HN2 := bx hn2
  clear ho hb hr2 hn2
  go_wp2_with fail
  refine (check_any A2 (n + 8) c2 F _ HR2.out HFB.out hc2 (by omega)).mono ?_
  rintro e w3 ⟨g, rfl, hr3, hg3, hb3⟩
  have B3 := bx (B2.out.trans (hb3.mono B2.out.size))
  have O3 := bx (O2.out.kept hb3)
  have HR3 := bx hr3
  have HL3 : Bx (F.length + 4 ≤ 70368744177664) := ⟨by rw [HFL.out]; omega⟩
  clear hr3 hb3
  go_wp2_with (first
    | ((with_reducible refine at_call 29 ?_); go_must (refine wpList_app rfl (.tmp 26) (.tmp 28) rfl w.heap.size _ F rfl O3.out (some ⟨g, 0, none⟩) 4 32 _ rfl HR3.out (fun h => by cases h) HL3.out B3.out.size ?_; intro v4 w4 h1 h2; have K1 := bx h1; have K2 := bx h2; clear h1 h2)))
  go_ret2
  exact ⟨_, rfl, by rw [HFO.out]; exact K1.out, O3.out.below K2.out B3.out (Nat.le_refl _) B3.out.size⟩
end Go.Proofs.Ythnommoljikaiaa
