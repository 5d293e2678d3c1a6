/- The walk over frame.length. -/
import Derived.Test.YthnommoljikaiaaRdr1
import Derived.Laws.RangeString
set_option linter.unusedSimpArgs false
set_option linter.unusedVariables false
namespace Go.Proofs.Ythnommoljikaiaa
open Go.RowKit

/-- What a frame begins with. -/
def magicAt (k : Nat) : Int := [67, 70, 49].getD k 0
/-- The first k bytes, as far as they are there, are those. -/
def goodUp (bs : List Int) (k : Nat) : Prop := ∀ j, j < k → j < bs.length → bs.getD j 0 = magicAt j
instance (bs : List Int) (k : Nat) : Decidable (goodUp bs k) := by unfold goodUp; infer_instance
/-- How long a frame is, as its head tells, or what is wrong. -/
def lenOf (bs : List Int) : Int × Int :=
  if ¬ goodUp bs 3 then (0, 11)
  else if 3 < bs.length ∧ bs.getD 3 0 = 0 then (0, 11)
  else if bs.length < 8 then (0, 10)
  else if 65536 < num ((bs.drop 4).take 4) then (0, 3)
  else (12 + num ((bs.drop 4).take 4), 0)

theorem is_any (C : Nat) (A : Option Addr) (n cap k : Nat) (g : Bool) (w : World) (hC : w.cell? ⟨C, 0, none⟩ = some (.slice A n cap)) :
    Calls Try.prog 114 #[.int .i64 k, .bool g, .pointer (some ⟨C, 0, none⟩)] w fun e w' => e = .returned (.bool (decide (n ≤ k) || g)) ∧ w = w' := by
  go_enter Try.func114, Try.ntmps114
  by_cases h : n ≤ k
  · have h1 : (n : Int) ≤ k := by omega
    go_wp2_with fail
    go_ret
    exact ⟨by simp [h], rfl⟩
  · have h1 : decide ((n : Int) ≤ k) = false := by simp; omega
    go_wp2_with fail
    go_ret
    exact ⟨by simp [h], rfl⟩

theorem magic_lt : ∀ (k : Nat) (h : k < 3), ((⟨#[67, 70, 49]⟩ : ByteArray)[k]'h).toNat < 128
  | 0, _ => (by decide : (67 : UInt8).toNat < 128)
  | 1, _ => (by decide : (70 : UInt8).toNat < 128)
  | 2, _ => (by decide : (49 : UInt8).toNat < 128)
theorem magic_index : ∀ (k : Nat) (h : k < 3) (w : World), (Instr.index 9 (.string ⟨#[67, 70, 49]⟩) (.int .i64 k)).run Try.prog w = .ok (.int .u8 (magicAt k)) w
  | 0, _, w => by kernel_rfl
  | 1, _, w => by kernel_rfl
  | 2, _, w => by kernel_rfl
theorem goodUp_succ {bs : List Int} {k : Nat} (h : goodUp bs k) (h2 : k < bs.length → bs.getD k 0 = magicAt k) : goodUp bs (k + 1) := fun j hj hl => by
  by_cases e : j = k
  · subst e; exact h2 hl
  · exact h j (by omega) hl

set_option maxRecDepth 100000 in
set_option maxHeartbeats 2000000 in
theorem length_any (A : Option Addr) (n cap : Nat) (bs : List Int) (w : World) (hrd : RdB w A n bs) (hnil : A = none → cap = 0) (hcap : n ≤ cap) (hB : IsB bs) (hbig : n ≤ 35184372088832) :
    Calls Try.prog 91 #[.slice A n cap] w fun e w' => e = .returned (.tuple #[.int .i64 (lenOf bs).1, .int .i64 (lenOf bs).2]) ∧ Below w.heap.size w w' := by
  have HRD := bx hrd; have HNIL := bx hnil; have HB := bx hB
  have B1 := bx ((Below.refl w.heap.size w).alloc (Nat.le_refl _) (.cells #[.slice A n cap] 22))
  have C1 : (w.alloc (.cells #[.slice A n cap] 22)).cell? ⟨w.heap.size, 0, none⟩ = some (.slice A n cap) := blk_cell (blk_new w _) rfl
  obtain ⟨w1, hw1⟩ : ∃ w1, w1 = w.alloc (.cells #[.slice A n cap] 22) := ⟨_, rfl⟩
  have hs1 : w1.heap.size = w.heap.size + 1 := by rw [hw1]; simp
  rw [← hw1] at B1 C1
  have HW1 := bx hw1; have HC1 := bx C1; have HS1 := bx hs1
  clear hrd hnil hB hw1 C1 hs1
  go_enter Try.func91, Try.ntmps91
  go_wp2_with fail
  rw [← HW1.out]
  go_loopg [5] 4 (fun gk i wr => ∃ k m : Nat, k ≤ 3 ∧ gk = 4 - k ∧ goodUp bs k ∧ wr = (w1.drewN m).iter ⟨#[67, 70, 49]⟩ k)
  case atStart => exact ⟨0, 0, by omega, rfl, fun j hj => absurd hj (by omega), rfl⟩
  case round =>
    obtain ⟨k, m, hk, rfl, hgood, hw⟩ := hrel
    subst hw
    have HG := bx hgood
    clear hgood
    have hsz : (w1.drewN m).heap.size = w.heap.size + 1 := HS1.out
    by_cases hk3 : k < 3
    · have hnx : ∀ ty, (Instr.next (.pointer (some ⟨w.heap.size + 1, 0, none⟩)) true ty).run Try.prog ((w1.drewN m).iter ⟨#[67, 70, 49]⟩ k) = .ok (.tuple #[.bool true, .int .i64 k, .int .i32 ((⟨#[67, 70, 49]⟩ : ByteArray)[k]'hk3).toNat]) ((w1.drewN m).iter ⟨#[67, 70, 49]⟩ (k + 1)) := by
        intro ty
        have := run_next_ascii (P := Try.prog) (w1.drewN m) ⟨#[67, 70, 49]⟩ k ty hk3 (magic_lt k hk3)
        rw [hsz] at this
        exact this
      generalize ((⟨#[67, 70, 49]⟩ : ByteArray)[k]'hk3).toNat = ck0 at hnx
      have hC2 : ((w1.drewN m).iter ⟨#[67, 70, 49]⟩ (k + 1)).drew.cell? ⟨w.heap.size, 0, none⟩ = some (.slice A n cap) := by
        show ((w1.drewN m).alloc _).cell? _ = _
        rw [World.cell?_alloc_some _ _ _ (by show (w1.cell? _).isSome = true; rw [HC1.out]; rfl)]
        exact HC1.out
      have B2 := bx (show Below w.heap.size w ((w1.drewN m).iter ⟨#[67, 70, 49]⟩ (k + 1)).drew from ((drewN_below B1.out m).alloc (by rw [hsz]; omega) _).drew)
      have HC2 := bx hC2
      clear hC2
      by_cases hkn : k < n
      · obtain ⟨b, o, rfl, hb, hcells⟩ := HRD.out.2 (by omega)
        have hck := (B2.out.cell (p := ⟨b, o + k, none⟩) hb).trans (hcells k hkn)
        clear hcells
        have hix := magic_index k hk3
        have HGS := bx (goodUp_succ (bs := bs) (k := k) HG.out)
        have HNG := bx (fun (h : goodUp bs 3) => h k hk3 (by rw [HRD.out.1]; exact hkn))
        have HLO : Bx (¬ goodUp bs 3 → lenOf bs = (0, 11)) := ⟨fun h => by rw [lenOf, if_pos h]⟩
        generalize hcke : bs.getD k 0 = ck at *
        generalize hmke : magicAt k = mk at *
        clear hcke hmke
        have hik : (k : Int) < n := by omega
        by_cases hcm : ck = mk
        · have hceq : (ck == mk) = true := by simp [hcm]
          have hcond : (decide (n ≤ k) || true) = true := by simp
          have hS0 := And.intro HC2.out hck
          go_wp2_with fail
          refine wp_region_held_drew (S := (fun w' => w'.cell? ⟨w.heap.size, 0, none⟩ = some (.slice (some ⟨b, o, none⟩) n cap) ∧ w'.cell? ⟨b, o + k, none⟩ = some (.int .u8 ck))) (by kernel_rfl) hS0 (fun hS => ?_)
          refine takeH (i := 0) (d := 12) (v := ?_) rfl rfl (by kernel_rfl) (by kernel_rfl) (by kernel_rfl) (fun _ _ _ h => h) (Or.inl ⟨by kernel_rfl, ?_⟩) hS ?_; rotate_left 1; (focus ((intro w' hS'; clear hS'; go_simp; try with_reducible rfl); done))
          try simp only [List.setIfInBounds_toArray, List.set_cons_zero, List.set_cons_succ]
          refine takeH (i := 1) (d := 13) (v := ?_) rfl rfl (by kernel_rfl) (by kernel_rfl) (by kernel_rfl) (fun _ _ _ h => h) (Or.inl ⟨by kernel_rfl, ?_⟩) hS ?_; rotate_left 1; (focus ((intro w' hS'; clear hS'; go_simp; try with_reducible rfl); done))
          try simp only [List.setIfInBounds_toArray, List.set_cons_zero, List.set_cons_succ]
          refine takeH (i := 2) (d := 14) (v := ?_) rfl rfl (by kernel_rfl) (by kernel_rfl) (by kernel_rfl) (fun _ _ _ h => h) (Or.inl ⟨by kernel_rfl, ?_⟩) hS ?_; rotate_left 1; (focus ((intro w' hS'; clear hS'; go_simp; try with_reducible rfl); done))
          try simp only [List.setIfInBounds_toArray, List.set_cons_zero, List.set_cons_succ]
          refine takeH (i := 3) (d := 15) (v := ?_) rfl rfl (by kernel_rfl) (by kernel_rfl) (by kernel_rfl) (fun _ _ _ h => h) (Or.inl ⟨by kernel_rfl, ?_⟩) hS ?_; rotate_left 1; (focus ((intro w' hS'; obtain ⟨k1, k2⟩ := hS'; go_simp; try with_reducible rfl); done))
          try simp only [List.setIfInBounds_toArray, List.set_cons_zero, List.set_cons_succ]
          refine takeH (i := 4) (d := 16) (v := ?_) rfl rfl (by kernel_rfl) (by kernel_rfl) (by kernel_rfl) (fun _ _ _ h => h) (Or.inl ⟨by kernel_rfl, ?_⟩) hS ?_; rotate_left 1; (focus ((intro w' hS'; clear hS'; go_simp; try with_reducible rfl); done))
          try simp only [List.setIfInBounds_toArray, List.set_cons_zero, List.set_cons_succ]
          refine takeH (i := 5) (d := 17) (v := ?_) rfl rfl (by kernel_rfl) (by kernel_rfl) (by kernel_rfl) (fun _ _ _ h => h) (Or.inl ⟨by kernel_rfl, ?_⟩) hS ?_; rotate_left 1; (focus ((intro w' hS'; clear hS'; go_simp; try with_reducible rfl); done))
          try simp only [List.setIfInBounds_toArray, List.set_cons_zero, List.set_cons_succ]
          refine takeH (i := 6) (d := 18) (v := ?_) rfl rfl (by kernel_rfl) (by kernel_rfl) (by kernel_rfl) (fun _ _ _ h => h) (Or.inl ⟨by kernel_rfl, ?_⟩) hS ?_; rotate_left 1; (focus ((intro w' hS'; clear hS'; go_simp; try with_reducible rfl); done))
          try simp only [List.setIfInBounds_toArray, List.set_cons_zero, List.set_cons_succ]
          refine takeH (i := 7) (d := 19) (v := ?_) rfl rfl (by kernel_rfl) (by kernel_rfl) (by kernel_rfl) (fun _ _ _ h => h) (Or.inl ⟨by kernel_rfl, ?_⟩) hS ?_; rotate_left 1; (focus ((intro w' hS'; obtain ⟨k1, k2⟩ := hS'; go_simp; try with_reducible rfl); done))
          try simp only [List.setIfInBounds_toArray, List.set_cons_zero, List.set_cons_succ]
          refine takeH (i := 8) (d := 20) (v := ?_) rfl rfl (by kernel_rfl) (by kernel_rfl) (by kernel_rfl) (fun _ _ _ h => h) (Or.inl ⟨by kernel_rfl, ?_⟩) hS ?_; rotate_left 1; (focus ((intro w' hS'; clear hS'; go_simp; try with_reducible rfl); done))
          try simp only [List.setIfInBounds_toArray, List.set_cons_zero, List.set_cons_succ]
          refine takeH (i := 9) (d := 21) (v := ?_) rfl rfl (by kernel_rfl) (by kernel_rfl) (by kernel_rfl) (fun _ _ _ h => h) (Or.inl ⟨by kernel_rfl, ?_⟩) hS ?_; rotate_left 1; (focus ((intro w' hS'; clear hS'; go_simp; try with_reducible rfl); done))
          try simp only [List.setIfInBounds_toArray, List.set_cons_zero, List.set_cons_succ]
          refine takeH (i := 10) (d := 22) (v := ?_) rfl rfl (by kernel_rfl) (by kernel_rfl) (by kernel_rfl) (fun _ _ _ h => h) (Or.inl ⟨by kernel_rfl, ?_⟩) hS ?_; rotate_left 1; (focus ((intro w' hS'; obtain ⟨k1, k2⟩ := hS'; go_simp; try with_reducible rfl); done))
          try simp only [List.setIfInBounds_toArray, List.set_cons_zero, List.set_cons_succ]
          refine takeH (i := 11) (d := 23) (v := ?_) rfl rfl (by kernel_rfl) (by kernel_rfl) (by kernel_rfl) (fun _ _ _ h => h) (Or.inl ⟨by kernel_rfl, ?_⟩) hS ?_; rotate_left 1; (focus ((intro w' hS'; clear hS'; go_simp; try with_reducible rfl); done))
          try simp only [List.setIfInBounds_toArray, List.set_cons_zero, List.set_cons_succ]
          refine takeH (i := 12) (d := 24) (v := ?_) rfl rfl (by kernel_rfl) (by kernel_rfl) (by kernel_rfl) (fun _ _ _ h => h) (Or.inl ⟨by kernel_rfl, ?_⟩) hS ?_; rotate_left 1; (focus ((intro w' hS'; clear hS'; go_simp; try with_reducible rfl); done))
          try simp only [List.setIfInBounds_toArray, List.set_cons_zero, List.set_cons_succ]
          refine takeH (i := 13) (d := 25) (v := ?_) rfl rfl (by kernel_rfl) (by kernel_rfl) (by kernel_rfl) (fun _ _ _ h => h) (Or.inl ⟨by kernel_rfl, ?_⟩) hS ?_; rotate_left 1; (focus ((intro w' hS'; clear hS'; go_simp; try with_reducible rfl); done))
          try simp only [List.setIfInBounds_toArray, List.set_cons_zero, List.set_cons_succ]
          refine takeH (i := 14) (d := 26) (v := ?_) rfl rfl (by kernel_rfl) (by kernel_rfl) (by kernel_rfl) (fun _ _ _ h => h) (Or.inl ⟨by kernel_rfl, ?_⟩) hS ?_; rotate_left 1; (focus ((intro w' hS'; clear hS'; go_simp; try with_reducible rfl); done))
          try simp only [List.setIfInBounds_toArray, List.set_cons_zero, List.set_cons_succ]
          refine wpAnyH_ready (rs := [15]) (by kernel_rfl) (by simp) ?_
          refine AllReadyH.cons rfl (fun K hK => ?_) AllReadyH.nil
          go_simp
          refine (is_any w.heap.size _ n cap k _ _ hS.1).mono ?_
          rintro e w3 ⟨rfl, rfl⟩
          rw [hcond]
          refine hK.out _ _ ?_ (fun hS2 => ?_)
          · exact hS
          clear hK K hS; have hS := hS2; clear hS2
          try simp only [Act.put, List.setIfInBounds_toArray, List.set_cons_zero, List.set_cons_succ]
          refine takeH (i := 16) (d := 28) (v := ?_) rfl rfl (by kernel_rfl) (by kernel_rfl) (by kernel_rfl) (fun _ _ _ h => h) (Or.inl ⟨by kernel_rfl, ?_⟩) hS ?_; rotate_left 1; (focus ((intro w' hS'; clear hS'; go_simp; try with_reducible rfl); done))
          try simp only [List.setIfInBounds_toArray, List.set_cons_zero, List.set_cons_succ]
          refine wpAnyH_done (by kernel_rfl) ?_ _
          go_wp2_with fail
          go_roundg (4 - (k + 1))
          case rel => exact ⟨k + 1, m + 1, by omega, rfl, HGS.out (fun _ => hcm), rfl⟩
          case measure => omega
        · have hceq : (ck == mk) = false := by simp [hcm]
          have hcond : (decide (n ≤ k) || false) = false := by simp; omega
          have hS0 := And.intro HC2.out hck
          go_wp2_with fail
          refine wp_region_held_drew (S := (fun w' => w'.cell? ⟨w.heap.size, 0, none⟩ = some (.slice (some ⟨b, o, none⟩) n cap) ∧ w'.cell? ⟨b, o + k, none⟩ = some (.int .u8 ck))) (by kernel_rfl) hS0 (fun hS => ?_)
          refine takeH (i := 0) (d := 12) (v := ?_) rfl rfl (by kernel_rfl) (by kernel_rfl) (by kernel_rfl) (fun _ _ _ h => h) (Or.inl ⟨by kernel_rfl, ?_⟩) hS ?_; rotate_left 1; (focus ((intro w' hS'; clear hS'; go_simp; try with_reducible rfl); done))
          try simp only [List.setIfInBounds_toArray, List.set_cons_zero, List.set_cons_succ]
          refine takeH (i := 1) (d := 13) (v := ?_) rfl rfl (by kernel_rfl) (by kernel_rfl) (by kernel_rfl) (fun _ _ _ h => h) (Or.inl ⟨by kernel_rfl, ?_⟩) hS ?_; rotate_left 1; (focus ((intro w' hS'; clear hS'; go_simp; try with_reducible rfl); done))
          try simp only [List.setIfInBounds_toArray, List.set_cons_zero, List.set_cons_succ]
          refine takeH (i := 2) (d := 14) (v := ?_) rfl rfl (by kernel_rfl) (by kernel_rfl) (by kernel_rfl) (fun _ _ _ h => h) (Or.inl ⟨by kernel_rfl, ?_⟩) hS ?_; rotate_left 1; (focus ((intro w' hS'; clear hS'; go_simp; try with_reducible rfl); done))
          try simp only [List.setIfInBounds_toArray, List.set_cons_zero, List.set_cons_succ]
          refine takeH (i := 3) (d := 15) (v := ?_) rfl rfl (by kernel_rfl) (by kernel_rfl) (by kernel_rfl) (fun _ _ _ h => h) (Or.inl ⟨by kernel_rfl, ?_⟩) hS ?_; rotate_left 1; (focus ((intro w' hS'; obtain ⟨k1, k2⟩ := hS'; go_simp; try with_reducible rfl); done))
          try simp only [List.setIfInBounds_toArray, List.set_cons_zero, List.set_cons_succ]
          refine takeH (i := 4) (d := 16) (v := ?_) rfl rfl (by kernel_rfl) (by kernel_rfl) (by kernel_rfl) (fun _ _ _ h => h) (Or.inl ⟨by kernel_rfl, ?_⟩) hS ?_; rotate_left 1; (focus ((intro w' hS'; clear hS'; go_simp; try with_reducible rfl); done))
          try simp only [List.setIfInBounds_toArray, List.set_cons_zero, List.set_cons_succ]
          refine takeH (i := 5) (d := 17) (v := ?_) rfl rfl (by kernel_rfl) (by kernel_rfl) (by kernel_rfl) (fun _ _ _ h => h) (Or.inl ⟨by kernel_rfl, ?_⟩) hS ?_; rotate_left 1; (focus ((intro w' hS'; clear hS'; go_simp; try with_reducible rfl); done))
          try simp only [List.setIfInBounds_toArray, List.set_cons_zero, List.set_cons_succ]
          refine takeH (i := 6) (d := 18) (v := ?_) rfl rfl (by kernel_rfl) (by kernel_rfl) (by kernel_rfl) (fun _ _ _ h => h) (Or.inl ⟨by kernel_rfl, ?_⟩) hS ?_; rotate_left 1; (focus ((intro w' hS'; clear hS'; go_simp; try with_reducible rfl); done))
          try simp only [List.setIfInBounds_toArray, List.set_cons_zero, List.set_cons_succ]
          refine takeH (i := 7) (d := 19) (v := ?_) rfl rfl (by kernel_rfl) (by kernel_rfl) (by kernel_rfl) (fun _ _ _ h => h) (Or.inl ⟨by kernel_rfl, ?_⟩) hS ?_; rotate_left 1; (focus ((intro w' hS'; obtain ⟨k1, k2⟩ := hS'; go_simp; try with_reducible rfl); done))
          try simp only [List.setIfInBounds_toArray, List.set_cons_zero, List.set_cons_succ]
          refine takeH (i := 8) (d := 20) (v := ?_) rfl rfl (by kernel_rfl) (by kernel_rfl) (by kernel_rfl) (fun _ _ _ h => h) (Or.inl ⟨by kernel_rfl, ?_⟩) hS ?_; rotate_left 1; (focus ((intro w' hS'; clear hS'; go_simp; try with_reducible rfl); done))
          try simp only [List.setIfInBounds_toArray, List.set_cons_zero, List.set_cons_succ]
          refine takeH (i := 9) (d := 21) (v := ?_) rfl rfl (by kernel_rfl) (by kernel_rfl) (by kernel_rfl) (fun _ _ _ h => h) (Or.inl ⟨by kernel_rfl, ?_⟩) hS ?_; rotate_left 1; (focus ((intro w' hS'; clear hS'; go_simp; try with_reducible rfl); done))
          try simp only [List.setIfInBounds_toArray, List.set_cons_zero, List.set_cons_succ]
          refine takeH (i := 10) (d := 22) (v := ?_) rfl rfl (by kernel_rfl) (by kernel_rfl) (by kernel_rfl) (fun _ _ _ h => h) (Or.inl ⟨by kernel_rfl, ?_⟩) hS ?_; rotate_left 1; (focus ((intro w' hS'; obtain ⟨k1, k2⟩ := hS'; go_simp; try with_reducible rfl); done))
          try simp only [List.setIfInBounds_toArray, List.set_cons_zero, List.set_cons_succ]
          refine takeH (i := 11) (d := 23) (v := ?_) rfl rfl (by kernel_rfl) (by kernel_rfl) (by kernel_rfl) (fun _ _ _ h => h) (Or.inl ⟨by kernel_rfl, ?_⟩) hS ?_; rotate_left 1; (focus ((intro w' hS'; clear hS'; go_simp; try with_reducible rfl); done))
          try simp only [List.setIfInBounds_toArray, List.set_cons_zero, List.set_cons_succ]
          refine takeH (i := 12) (d := 24) (v := ?_) rfl rfl (by kernel_rfl) (by kernel_rfl) (by kernel_rfl) (fun _ _ _ h => h) (Or.inl ⟨by kernel_rfl, ?_⟩) hS ?_; rotate_left 1; (focus ((intro w' hS'; clear hS'; go_simp; try with_reducible rfl); done))
          try simp only [List.setIfInBounds_toArray, List.set_cons_zero, List.set_cons_succ]
          refine takeH (i := 13) (d := 25) (v := ?_) rfl rfl (by kernel_rfl) (by kernel_rfl) (by kernel_rfl) (fun _ _ _ h => h) (Or.inl ⟨by kernel_rfl, ?_⟩) hS ?_; rotate_left 1; (focus ((intro w' hS'; clear hS'; go_simp; try with_reducible rfl); done))
          try simp only [List.setIfInBounds_toArray, List.set_cons_zero, List.set_cons_succ]
          refine takeH (i := 14) (d := 26) (v := ?_) rfl rfl (by kernel_rfl) (by kernel_rfl) (by kernel_rfl) (fun _ _ _ h => h) (Or.inl ⟨by kernel_rfl, ?_⟩) hS ?_; rotate_left 1; (focus ((intro w' hS'; clear hS'; go_simp; try with_reducible rfl); done))
          try simp only [List.setIfInBounds_toArray, List.set_cons_zero, List.set_cons_succ]
          refine wpAnyH_ready (rs := [15]) (by kernel_rfl) (by simp) ?_
          refine AllReadyH.cons rfl (fun K hK => ?_) AllReadyH.nil
          go_simp
          refine (is_any w.heap.size _ n cap k _ _ hS.1).mono ?_
          rintro e w3 ⟨rfl, rfl⟩
          rw [hcond]
          refine hK.out _ _ ?_ (fun hS2 => ?_)
          · exact hS
          clear hK K hS; have hS := hS2; clear hS2
          try simp only [Act.put, List.setIfInBounds_toArray, List.set_cons_zero, List.set_cons_succ]
          refine takeH (i := 16) (d := 28) (v := ?_) rfl rfl (by kernel_rfl) (by kernel_rfl) (by kernel_rfl) (fun _ _ _ h => h) (Or.inl ⟨by kernel_rfl, ?_⟩) hS ?_; rotate_left 1; (focus ((intro w' hS'; clear hS'; go_simp; try with_reducible rfl); done))
          try simp only [List.setIfInBounds_toArray, List.set_cons_zero, List.set_cons_succ]
          refine wpAnyH_done (by kernel_rfl) ?_ _
          go_wp2_with fail
          go_ret2
          exact ⟨by rw [HLO.out (fun h => hcm (HNG.out h))]; rfl, B2.out⟩
      · have hcond : (decide (n ≤ k) || false) = true := by simp; omega
        have hS0 := HC2.out
        have hik : ¬ (k : Int) < n := by omega
        go_wp2_with fail
        refine wp_region_held_drew (S := (fun w' => w'.cell? ⟨w.heap.size, 0, none⟩ = some (.slice A n cap))) (by kernel_rfl) hS0 (fun hS => ?_)
        refine takeH (i := 0) (d := 12) (v := ?_) rfl rfl (by kernel_rfl) (by kernel_rfl) (by kernel_rfl) (fun _ _ _ h => h) (Or.inl ⟨by kernel_rfl, ?_⟩) hS ?_; rotate_left 1; (focus ((intro w' hS'; clear hS'; go_simp; try with_reducible rfl); done))
        try simp only [List.setIfInBounds_toArray, List.set_cons_zero, List.set_cons_succ]
        refine takeH (i := 1) (d := 13) (v := ?_) rfl rfl (by kernel_rfl) (by kernel_rfl) (by kernel_rfl) (fun _ _ _ h => h) (Or.inl ⟨by kernel_rfl, ?_⟩) hS ?_; rotate_left 1; (focus ((intro w' hS'; clear hS'; go_simp; try with_reducible rfl); done))
        try simp only [List.setIfInBounds_toArray, List.set_cons_zero, List.set_cons_succ]
        refine takeH (i := 2) (d := 14) (v := ?_) rfl rfl (by kernel_rfl) (by kernel_rfl) (by kernel_rfl) (fun _ _ _ h => h) (Or.inl ⟨by kernel_rfl, ?_⟩) hS ?_; rotate_left 1; (focus ((intro w' hS'; clear hS'; go_simp; try with_reducible rfl); done))
        try simp only [List.setIfInBounds_toArray, List.set_cons_zero, List.set_cons_succ]
        refine takeH (i := 3) (d := 15) (v := ?_) rfl rfl (by kernel_rfl) (by kernel_rfl) (by kernel_rfl) (fun _ _ _ h => h) (Or.inl ⟨by kernel_rfl, ?_⟩) hS ?_; rotate_left 1; (focus ((intro w' hS'; have k1 := hS'; go_simp; try with_reducible rfl); done))
        try simp only [List.setIfInBounds_toArray, List.set_cons_zero, List.set_cons_succ]
        refine takeH (i := 4) (d := 16) (v := ?_) rfl rfl (by kernel_rfl) (by kernel_rfl) (by kernel_rfl) (fun _ _ _ h => h) (Or.inl ⟨by kernel_rfl, ?_⟩) hS ?_; rotate_left 1; (focus ((intro w' hS'; clear hS'; go_simp; try with_reducible rfl); done))
        try simp only [List.setIfInBounds_toArray, List.set_cons_zero, List.set_cons_succ]
        refine takeH (i := 5) (d := 17) (v := ?_) rfl rfl (by kernel_rfl) (by kernel_rfl) (by kernel_rfl) (fun _ _ _ h => h) (Or.inl ⟨by kernel_rfl, ?_⟩) hS ?_; rotate_left 1; (focus ((intro w' hS'; clear hS'; go_simp; try with_reducible rfl); done))
        try simp only [List.setIfInBounds_toArray, List.set_cons_zero, List.set_cons_succ]
        refine takeH (i := 6) (d := 18) (v := ?_) rfl rfl (by kernel_rfl) (by kernel_rfl) (by kernel_rfl) (fun _ _ _ h => h) (Or.inl ⟨by kernel_rfl, ?_⟩) hS ?_; rotate_left 1; (focus ((intro w' hS'; clear hS'; go_simp; try with_reducible rfl); done))
        try simp only [List.setIfInBounds_toArray, List.set_cons_zero, List.set_cons_succ]
        refine takeH (i := 7) (d := 19) (v := undef) rfl rfl (by kernel_rfl) (by kernel_rfl) (by kernel_rfl) (fun _ _ _ h => h) (Or.inr ⟨by kernel_rfl, rfl⟩) hS ?_
        try simp only [List.setIfInBounds_toArray, List.set_cons_zero, List.set_cons_succ]
        refine takeH (i := 8) (d := 20) (v := undef) rfl rfl (by kernel_rfl) (by kernel_rfl) (by kernel_rfl) (fun _ _ _ h => h) (Or.inr ⟨by kernel_rfl, rfl⟩) hS ?_
        try simp only [List.setIfInBounds_toArray, List.set_cons_zero, List.set_cons_succ]
        refine takeH (i := 9) (d := 21) (v := undef) rfl rfl (by kernel_rfl) (by kernel_rfl) (by kernel_rfl) (fun _ _ _ h => h) (Or.inr ⟨by kernel_rfl, rfl⟩) hS ?_
        try simp only [List.setIfInBounds_toArray, List.set_cons_zero, List.set_cons_succ]
        refine takeH (i := 10) (d := 22) (v := undef) rfl rfl (by kernel_rfl) (by kernel_rfl) (by kernel_rfl) (fun _ _ _ h => h) (Or.inr ⟨by kernel_rfl, rfl⟩) hS ?_
        try simp only [List.setIfInBounds_toArray, List.set_cons_zero, List.set_cons_succ]
        refine takeH (i := 11) (d := 23) (v := undef) rfl rfl (by kernel_rfl) (by kernel_rfl) (by kernel_rfl) (fun _ _ _ h => h) (Or.inr ⟨by kernel_rfl, rfl⟩) hS ?_
        try simp only [List.setIfInBounds_toArray, List.set_cons_zero, List.set_cons_succ]
        refine takeH (i := 12) (d := 24) (v := undef) rfl rfl (by kernel_rfl) (by kernel_rfl) (by kernel_rfl) (fun _ _ _ h => h) (Or.inr ⟨by kernel_rfl, rfl⟩) hS ?_
        try simp only [List.setIfInBounds_toArray, List.set_cons_zero, List.set_cons_succ]
        refine takeH (i := 13) (d := 25) (v := undef) rfl rfl (by kernel_rfl) (by kernel_rfl) (by kernel_rfl) (fun _ _ _ h => h) (Or.inr ⟨by kernel_rfl, rfl⟩) hS ?_
        try simp only [List.setIfInBounds_toArray, List.set_cons_zero, List.set_cons_succ]
        refine takeH (i := 14) (d := 26) (v := ?_) rfl rfl (by kernel_rfl) (by kernel_rfl) (by kernel_rfl) (fun _ _ _ h => h) (Or.inl ⟨by kernel_rfl, ?_⟩) hS ?_; rotate_left 1; (focus ((intro w' hS'; clear hS'; go_simp; try with_reducible rfl); done))
        try simp only [List.setIfInBounds_toArray, List.set_cons_zero, List.set_cons_succ]
        refine wpAnyH_ready (rs := [15]) (by kernel_rfl) (by simp) ?_
        refine AllReadyH.cons rfl (fun K hK => ?_) AllReadyH.nil
        go_simp
        refine (is_any w.heap.size A n cap k _ _ hS).mono ?_
        rintro e w3 ⟨rfl, rfl⟩
        rw [hcond]
        refine hK.out _ _ ?_ (fun hS2 => ?_)
        · exact hS
        clear hK K hS; have hS := hS2; clear hS2
        try simp only [Act.put, List.setIfInBounds_toArray, List.set_cons_zero, List.set_cons_succ]
        refine takeH (i := 16) (d := 28) (v := ?_) rfl rfl (by kernel_rfl) (by kernel_rfl) (by kernel_rfl) (fun _ _ _ h => h) (Or.inl ⟨by kernel_rfl, ?_⟩) hS ?_; rotate_left 1; (focus ((intro w' hS'; clear hS'; go_simp; try with_reducible rfl); done))
        try simp only [List.setIfInBounds_toArray, List.set_cons_zero, List.set_cons_succ]
        refine wpAnyH_done (by kernel_rfl) ?_ _
        go_wp2_with fail
        go_roundg (4 - (k + 1))
        case rel => exact ⟨k + 1, m + 1, by omega, rfl, goodUp_succ HG.out (fun h => absurd h (by rw [HRD.out.1]; exact hkn)), rfl⟩
        case measure => omega
    · obtain rfl : k = 3 := by omega
      have hnx : ∀ ty, (Instr.next (.pointer (some ⟨w.heap.size + 1, 0, none⟩)) true ty).run Try.prog ((w1.drewN m).iter ⟨#[67, 70, 49]⟩ 3) = .ok (.tuple #[.bool false]) ((w1.drewN m).iter ⟨#[67, 70, 49]⟩ 3) := by
        intro ty
        have := run_next_end (P := Try.prog) (w1.drewN m) ⟨#[67, 70, 49]⟩ 3 ty (by decide)
        rw [hsz] at this
        exact this
      have hC2 : ((w1.drewN m).iter ⟨#[67, 70, 49]⟩ 3).cell? ⟨w.heap.size, 0, none⟩ = some (.slice A n cap) := by
        show ((w1.drewN m).alloc _).cell? _ = _
        rw [World.cell?_alloc_some _ _ _ (by show (w1.cell? _).isSome = true; rw [HC1.out]; rfl)]
        exact HC1.out
      have B2 := bx (show Below w.heap.size w ((w1.drewN m).iter ⟨#[67, 70, 49]⟩ 3) from (drewN_below B1.out m).alloc (by rw [hsz]; omega) _)
      generalize hw2 : (w1.drewN m).iter ⟨#[67, 70, 49]⟩ 3 = w2 at *
      clear hw2
      have HL := bx HRD.out.1
      have R2 := bx (HRD.out.below B2.out)
      clear hk hk3 hsz
      by_cases h3 : 3 < n
      · obtain ⟨b, o, rfl, hb, hcells⟩ := R2.out.2 (by omega)
        have hc3 := hcells 3 h3
        clear hcells
        have HLb : Bx (bs.getD 3 0 = 0 → lenOf bs = (0, 11)) := ⟨fun h => by rw [lenOf, if_neg (fun hn => hn HG.out), if_pos ⟨by rw [HL.out]; exact h3, h⟩]⟩
        have HLc : Bx (¬ bs.getD 3 0 = 0 → lenOf bs = if n < 8 then (0, 10) else if 65536 < num ((bs.drop 4).take 4) then (0, 3) else (12 + num ((bs.drop 4).take 4), 0)) := ⟨fun h => by rw [lenOf, if_neg (fun hn => hn HG.out), if_neg (fun hn => h hn.2), HL.out]⟩
        generalize bs.getD 3 0 = c3 at *
        have h3' : (3 : Int) < n := by omega
        by_cases hz : c3 = 0
        · subst hz
          have hcond : (decide (n ≤ 3) || false) = false := by simp; omega
          go_wp2_with fail
          refine (is_any w.heap.size _ n cap 3 _ _ hC2).mono ?_
          rintro e w3 ⟨rfl, rfl⟩
          rw [hcond]
          go_wp2_with fail
          go_ret2
          exact ⟨by rw [HLb.out (by trivial)]; rfl, B2.out⟩
        · have hzb : (c3 == 0) = false := by simp [hz]
          have hcond : (decide (n ≤ 3) || true) = true := by simp
          have HZ := bx (HLc.out hz)
          have HBS := bx (isB_take (isB_drop HB.out 4) 4)
          have hzb2 : (c3 != 0) = true := by simp [hz]
          clear hz HLb HLc
          go_wp2_with fail
          refine (is_any w.heap.size _ n cap 3 _ _ hC2).mono ?_
          rintro e w3 ⟨rfl, rfl⟩
          rw [hcond]
          by_cases h8 : n < 8
          · have h8' : (n : Int) < 8 := by omega
            go_wp2_with fail
            go_ret2
            exact ⟨by rw [HZ.out, if_pos h8]; rfl, B2.out⟩
          · have h8' : ¬ (n : Int) < 8 := by omega
            have hcap8 : ¬ cap = 4 := by omega
            have R4 := bx (rdB_sub 4 4 R2.out (by omega))
            have HL4 : Bx (((bs.drop 4).take 4).length = 4) := ⟨R4.out.1⟩
            have HZ2 : Bx (lenOf bs = if 65536 < num ((bs.drop 4).take 4) then (0, 3) else (12 + num ((bs.drop 4).take 4), 0)) := ⟨by rw [HZ.out, if_neg h8]⟩
            generalize (bs.drop 4).take 4 = ds at *
            have hnb := num_bounds ds 0 0 HBS.out (Int.le_refl _) (by decide)
            have hnb2 : 0 ≤ num ds ∧ num ds < 4294967296 := by
              rw [HL4.out] at hnb
              exact hnb
            obtain ⟨hnb3, hnb4⟩ := hnb2
            have hds : ds.take 4 = ds := List.take_of_length_le (by rw [HL4.out]; exact Nat.le_refl _)
            have HDS := bx hds
            clear HZ hcond hnb hds
            go_wp2_with fail
            refine (rnew_any _ 4 (cap - 4) ds _ R4.out (fun h => by cases h) (by decide)).mono ?_
            rintro e w3 ⟨R, A1, c1, rfl, hR, hr1, hc1, hn1, hne1, hRg, hb3⟩
            have B3 := bx (B2.out.trans (hb3.mono B2.out.size))
            have HR := bx hR; have HR1 := bx hr1; have HNE := bx (show ∀ a, A1 = some a → a.block ≠ R from fun a ha => Nat.ne_of_lt (hne1 a ha).2)
            have hRw : w.heap.size ≤ R := Nat.le_trans B2.out.size hRg
            clear hb3 hR hr1 hn1 hne1
            go_wp2_with fail
            refine (num_fine R 4 4 c1 A1 ds _ HR.out HR1.out HBS.out (by decide) (by decide) (by decide) hc1 HNE.out).mono ?_
            rintro e w4 ⟨rfl, A', hA', hw4⟩
            rw [HDS.out]
            have B4 := bx (show Below w.heap.size w w4 from by rw [hw4]; exact B3.out.setCell hRw _)
            clear hA' hw4
            generalize num ds = N at *
            by_cases hN : 65536 < N
            · go_wp2_with fail
              go_ret2
              exact ⟨by rw [HZ2.out, if_pos hN]; rfl, B4.out⟩
            · go_wp2_with fail
              go_ret2
              exact ⟨by rw [HZ2.out, if_neg (by omega)]; rfl, B4.out⟩
      · have h3' : ¬ (3 : Int) < n := by omega
        have hcond : (decide (n ≤ 3) || false) = true := by simp; omega
        have HLO : Bx (lenOf bs = (0, 10)) := ⟨by rw [lenOf, if_neg (fun hn => hn HG.out), if_neg (fun hn => h3 (by rw [← HL.out]; exact hn.1)), if_pos (by rw [HL.out]; omega)]⟩
        have h8' : (n : Int) < 8 := by omega
        go_wp2_with fail
        refine (is_any w.heap.size _ n cap 3 _ _ hC2).mono ?_
        rintro e w3 ⟨rfl, rfl⟩
        rw [hcond]
        go_wp2_with fail
        go_ret2
        exact ⟨by rw [HLO.out]; rfl, B2.out⟩
end Go.Proofs.Ythnommoljikaiaa
