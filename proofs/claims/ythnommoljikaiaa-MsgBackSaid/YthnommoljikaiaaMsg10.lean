/- Messages: Text; what was put is read as it was (plain). -/
import Derived.Test.YthnommoljikaiaaMsg8
set_option linter.unusedSimpArgs false
set_option linter.unusedVariables false
namespace Go.Proofs.Ythnommoljikaiaa
open Go.RowKit

def textOf (code : Int) : ByteArray := if code < 0 ∨ 10 ≤ code then ⟨#[]⟩ else texts.getD code.toNat ⟨#[]⟩
set_option maxRecDepth 100000 in
set_option maxHeartbeats 800000 in
theorem text_any (code : Int) (w : World) : Calls Try.prog 59 #[.int .i64 code] w fun e w' => e = .returned (.string (textOf code)) ∧ Below w.heap.size w w' := by
  have ways : (code < 0 ∧ textOf code = ⟨#[]⟩) ∨ ((¬ code < 0 ∧ 10 ≤ code) ∧ textOf code = ⟨#[]⟩) ∨ code = 0 ∨ code = 1 ∨ code = 2 ∨ code = 3 ∨ code = 4 ∨ code = 5 ∨ code = 6 ∨ code = 7 ∨ code = 8 ∨ code = 9 := by
    by_cases h : code < 0
    · exact .inl ⟨h, by rw [textOf, if_pos (.inl h)]⟩
    · by_cases h2 : 10 ≤ code
      · exact .inr (.inl ⟨⟨h, h2⟩, by rw [textOf, if_pos (.inr h2)]⟩)
      · omega
  rcases ways with ⟨h, ht⟩ | ⟨⟨h, h2⟩, ht⟩ | rfl | rfl | rfl | rfl | rfl | rfl | rfl | rfl | rfl | rfl
  · have HT := bx ht
    clear ht
    go_enter Try.func59, Try.ntmps59
    go_wp2_with fail
    go_ret
    exact ⟨by rw [HT.out]; rfl, (Below.refl _ _).alloc (Nat.le_refl _) _⟩
  · have HT := bx ht
    clear ht
    go_enter Try.func59, Try.ntmps59
    go_wp2_with fail
    go_ret
    exact ⟨by rw [HT.out]; rfl, (Below.refl _ _).alloc (Nat.le_refl _) _⟩
  all_goals
    go_enter Try.func59, Try.ntmps59
    go_wp2_with fail
    go_ret
    exact ⟨rfl, (Below.refl _ _).alloc (Nat.le_refl _) _⟩
/-! What was put is read as it was. -/
theorem rOut_app {a b : List Int} {m : Nat} (h : a.length = m) (h1 : 1 ≤ m) : rOut (a ++ b) 0 m = a ∧ rRest (a ++ b) 0 m = b ∧ rBad (a ++ b) 0 m = 0 := by
  have hs : ¬ rShut 0 (m : Int) := by unfold rShut; omega
  have hl : ¬ (((a ++ b).length : Int) < m) := by rw [List.length_append]; omega
  refine ⟨?_, ?_, ?_⟩
  · rw [rOut, if_neg hs, if_neg hl]
    show (a ++ b).take m = a
    rw [← h, List.take_left']
    rfl
  · rw [rRest, if_neg hs, if_neg hl]
    show (a ++ b).drop m = b
    rw [← h, List.drop_left']
    rfl
  · rw [rBad, if_neg hs, if_neg hl]
theorem stepR_app {a b : List Int} {m : Nat} (h : a.length = m) (h1 : 1 ≤ m) : stepR (a ++ b, 0) m = (b, 0) ∧ numR (a ++ b, 0) m = num a := by
  obtain ⟨e1, e2, e3⟩ := rOut_app (a := a) (b := b) h h1
  exact ⟨by rw [stepR, e2, e3], by rw [numR, e1]⟩
theorem nmS_app {a b : List Int} (h : a.length = 16) : nmS (a ++ b, 0) = a := by
  have e : rOut (a ++ b) 0 16 = a := (rOut_app (m := 16) h (by decide)).1
  show nmR _ _ = _
  rw [nmR, e, h]
  show a ++ [] = a
  rw [List.append_nil]
theorem namesR_app : ∀ (n : Nat) (flat rest : List Int), flat.length = 16 * n → namesR n (flat ++ rest, 0) = (flat, (rest, 0))
  | 0, flat, rest, h => by
    obtain rfl : flat = [] := List.eq_nil_of_length_eq_zero (by omega)
    rfl
  | n + 1, flat, rest, h => by
    have e : flat = flat.take 16 ++ flat.drop 16 := (List.take_append_drop 16 flat).symm
    have h1 : (flat.take 16).length = 16 := by rw [List.length_take]; omega
    have h2 : (flat.drop 16).length = 16 * n := by rw [List.length_drop]; omega
    rw [namesR, if_pos (by rfl), e, List.append_assoc, nmS_app h1, (stepR_app (m := 16) h1 (by decide)).1, namesR_app n _ rest h2]
theorem sOut_app {ds : List Int} (h : ds.length ≤ 8192) : sOut (be ds.length 4 ++ ds) 0 = ds := by
  have hb : (be (ds.length : Int) 4).length = 4 := be_length _ _
  obtain ⟨e1, e2, e3⟩ := rOut_app (a := be ds.length 4) (b := ds) (m := 4) hb (by decide)
  have hn : num (be (ds.length : Int) 4) = ds.length := num_be4 (by omega) (by omega)
  change rOut (be (ds.length : Int) 4 ++ ds) 0 4 = _ at e1
  change rRest (be (ds.length : Int) 4 ++ ds) 0 4 = _ at e2
  change rBad (be (ds.length : Int) 4 ++ ds) 0 4 = _ at e3
  rw [sOut, e1, e2, e3, hn, if_neg (by omega)]
  by_cases h0 : ds.length = 0
  · obtain rfl := List.eq_nil_of_length_eq_zero h0
    rfl
  · have := (rOut_app (a := ds) (b := []) (m := ds.length) rfl (by omega)).1
    rw [List.append_nil] at this
    exact this
theorem read_put (named : Bool) {c k i g : Int} {nm flat ds : List Int} {n2 : Nat} (hc : 0 ≤ c ∧ c < 256) (hk : 0 ≤ k ∧ k < 256) (hi : 0 ≤ i ∧ i < 18446744073709551616) (hg : 0 ≤ g ∧ g < 18446744073709551616) (hnm : nm.length = 16) (hz : named = false → nm = zero16)
    (h2 : flat.length = 16 * n2) (hn2 : n2 ≤ 128) (h3 : ds.length ≤ 8192) : readM named (bodyM named c k i g nm n2 flat ds.length ds) = ⟨c, k, i, g, nm, flat, ds⟩ := by
  have ec : num [c] = c := by simp [num]
  have ek : num [k] = k := by simp [num]
  have ei : num (be i 8) = i := num_be8 hi.1 hi.2
  have eg : num (be g 8) = g := num_be8 hg.1 hg.2
  have en : num (be (n2 : Int) 2) = n2 := num_be2 (by omega) (by omega)
  have e0 : ((n2 : Int)).toNat = n2 := by omega
  cases named with
  | true =>
    have E : bodyM true c k i g nm n2 flat ds.length ds = [c] ++ (be i 8 ++ ([k] ++ (nm ++ (be g 8 ++ (be n2 2 ++ (flat ++ (be ds.length 4 ++ ds))))))) := by simp [bodyM, headOf, List.append_assoc]
    rw [E]
    unfold readM
    simp only [if_true, (stepR_app (a := [c]) (m := 1) rfl (by decide)).1, (stepR_app (a := [c]) (m := 1) rfl (by decide)).2, (stepR_app (a := be i 8) (m := 8) (be_length _ _) (by decide)).1, (stepR_app (a := be i 8) (m := 8) (be_length _ _) (by decide)).2,
      (stepR_app (a := [k]) (m := 1) rfl (by decide)).1, (stepR_app (a := [k]) (m := 1) rfl (by decide)).2, nmS_app hnm, (stepR_app (m := 16) hnm (by decide)).1, (stepR_app (a := be g 8) (m := 8) (be_length _ _) (by decide)).1, (stepR_app (a := be g 8) (m := 8) (be_length _ _) (by decide)).2,
      (stepR_app (a := be (n2 : Int) 2) (m := 2) (be_length _ _) (by decide)).1, (stepR_app (a := be (n2 : Int) 2) (m := 2) (be_length _ _) (by decide)).2, ec, ek, ei, eg, en, e0, namesR_app n2 flat _ h2, sOut_app h3]
  | false =>
    obtain rfl := hz rfl
    have E : bodyM false c k i g zero16 n2 flat ds.length ds = [c] ++ (be i 8 ++ ([k] ++ (be g 8 ++ (be n2 2 ++ (flat ++ (be ds.length 4 ++ ds)))))) := by simp [bodyM, headOf, List.append_assoc]
    rw [E]
    unfold readM
    simp only [Bool.false_eq_true, if_false, (stepR_app (a := [c]) (m := 1) rfl (by decide)).1, (stepR_app (a := [c]) (m := 1) rfl (by decide)).2, (stepR_app (a := be i 8) (m := 8) (be_length _ _) (by decide)).1, (stepR_app (a := be i 8) (m := 8) (be_length _ _) (by decide)).2,
      (stepR_app (a := [k]) (m := 1) rfl (by decide)).1, (stepR_app (a := [k]) (m := 1) rfl (by decide)).2, (stepR_app (a := be g 8) (m := 8) (be_length _ _) (by decide)).1, (stepR_app (a := be g 8) (m := 8) (be_length _ _) (by decide)).2,
      (stepR_app (a := be (n2 : Int) 2) (m := 2) (be_length _ _) (by decide)).1, (stepR_app (a := be (n2 : Int) 2) (m := 2) (be_length _ _) (by decide)).2, ec, ek, ei, eg, en, e0, namesR_app n2 flat _ h2, sOut_app h3]
end Go.Proofs.Ythnommoljikaiaa
