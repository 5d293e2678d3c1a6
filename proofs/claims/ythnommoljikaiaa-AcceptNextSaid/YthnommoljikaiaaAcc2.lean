/- The walk over the law's own play of accept. -/
import Derived.Test.YthnommoljikaiaaAcc1
import Derived.Test.YthnommoljikaiaaShaEv
set_option linter.unusedSimpArgs false
set_option linter.unusedVariables false
namespace Go.Proofs.Ythnommoljikaiaa
open Go.RowKit

theorem pin_get0 (g e : Int) (s : List Int) : (pinCells g e s)[0]? = some (.int .u64 g) := rfl
theorem pin_get1 (g e : Int) (s : List Int) : (pinCells g e s)[1]? = some (.int .u64 e) := rfl
theorem pin_eqIn (g e g' e' : Int) (s s' : List Int) (hs : s.length = 32) (hs' : s'.length = 32) (w : World) :
    (Op.equalIn 10000 84 (.agg (pinCells g e s)) (.agg (pinCells g' e' s'))).run Try.prog w = .ok ((g == g') && ((e == e') && ((decide (s = s')) && true))) w := by
  rw [eqIn_struct Try.underlying84 Try.stoodInHeld84 9999]
  refine eqf_step (by decide) (part_int Try.underlying65 (pin_get0 g e s) w) (part_int Try.underlying65 (pin_get0 g' e' s') w) (run_equalIn_int w 9998 _ _ _ g g' Try.underlying65) ?_
  refine eqf_step (by decide) (part_int Try.underlying65 (pin_get1 g e s) w) (part_int Try.underlying65 (pin_get1 g' e' s') w) (run_equalIn_int w 9998 _ _ _ e e' Try.underlying65) ?_
  refine eqf_step (a := .agg (ints .u8 s)) (b := .agg (ints .u8 s')) (by decide) ?_ ?_ (eq_ints Try.underlying82 Try.underlying5 (by kernel_rfl) 9997 s s' hs hs' w) eqf_nil
  · rw [← pin_sum g e s hs]; exact part_agg Try.underlying82 rfl (by kernel_rfl) w
  · rw [← pin_sum g' e' s' hs']; exact part_agg Try.underlying82 rfl (by kernel_rfl) w
theorem pin_eql (p q : Pin) (hs : p.s.length = 32) (hs' : q.s.length = 32) (w : World) :
    (binOp .eql 84 p.val q.val).run Try.prog w = .ok (.bool ((p.g == q.g) && ((p.e == q.e) && ((decide (p.s = q.s)) && true)))) w := by
  rw [Pin.val, Pin.val, run_eql_struct, pin_eqIn _ _ _ _ _ _ hs hs']; rfl
theorem pin_neq (p q : Pin) (hs : p.s.length = 32) (hs' : q.s.length = 32) (w : World) :
    (binOp .neq 84 p.val q.val).run Try.prog w = .ok (.bool (!((p.g == q.g) && ((p.e == q.e) && ((decide (p.s = q.s)) && true))))) w := by
  rw [Pin.val, Pin.val, run_neq_struct, pin_eqIn _ _ _ _ _ _ hs hs']; rfl

/-- Accept, at what it comes to. -/
theorem accept_at (p : Pin) (gen epoch : Int) (A : Option Addr) (n cap : Nat) (bs : List Int) (r : Pin) (code : Int) (hr : acceptOf p gen bs epoch = (r, code)) (w : World) (hp : p.s.length = 32) (hrd : RdB w A n bs) (hB : IsB bs) (hcap : n ≤ cap) (hbig : n ≤ 1152921504606846976) :
    Calls Try.prog 40 #[.agg (pinCells p.g p.e p.s), .int .u64 gen, .slice A n cap, .int .u64 epoch] w fun e w' =>
      e = .returned (.tuple #[.agg (pinCells r.g r.e r.s), .int .i64 code]) ∧ Below w.heap.size w w' := by
  have := accept_any p gen epoch A n cap bs w hp hrd hB hcap hbig
  rw [hr] at this
  exact this
theorem rdB_one {w : World} {b : Nat} {c : Int} (hcell : w.cell? ⟨b, 0, none⟩ = some (.int .u8 c)) : RdB w (some ⟨b, 0, none⟩) 1 [c] := by
  refine ⟨rfl, fun _ => ⟨b, 0, rfl, block_lt_of_cell hcell, fun j hj => ?_⟩⟩
  have hj0 : j = 0 := by omega
  subst hj0
  exact hcell

set_option maxRecDepth 100000 in
set_option maxHeartbeats 600000 in
theorem one18_any (w : World) : Calls Try.prog 38 #[] w fun e w' => e = .returned (.bool true) ∧ Below w.heap.size w w' := by
  have hSl := shaOf_length [97]
  have hab : shaOf [98] ≠ shaOf [97] := fun h => by have := sha_ab; rw [h] at this; simp at this
  have a1 : acceptOf pin0 5 [97] 2 = (⟨5, 2, shaOf [97]⟩, 0) := by simp [acceptOf, pin0]
  have a2 : acceptOf ⟨5, 2, shaOf [97]⟩ 4 [97] 2 = (pin0, 18) := by simp [acceptOf]
  have a3 : acceptOf ⟨5, 2, shaOf [97]⟩ 5 [97] 2 = (⟨5, 2, shaOf [97]⟩, 0) := by simp [acceptOf]
  have a4 : acceptOf ⟨5, 2, shaOf [97]⟩ 5 [98] 2 = (pin0, 12) := by simp [acceptOf, hab]
  generalize shaOf [97] = S at *
  have A1 := bx a1; have A2 := bx a2; have A3 := bx a3; have A4 := bx a4; have HS := bx hSl
  clear a1 a2 a3 a4 hab hSl
  have I34 : Bx ((Try.prog.info? 84).map (·.size) = some 34) := ⟨by kernel_rfl⟩
  have IS : Bx ((Try.prog.info? 84).map (·.size) = some (pinCells 5 2 S).size) := ⟨by rw [pin_size _ _ _ HS.out]; exact I34.out⟩
  have hB97 : Bx (IsB [97]) := ⟨isB_one (by decide)⟩
  have hB98 : Bx (IsB [98]) := ⟨isB_one (by decide)⟩
  have hcv := fun (w : World) (C : Array Value) (n c : Nat) => Lib.run_convert_bytes_const (P := Try.prog) w 22 5 C n c Try.underlying22 Try.underlying5
  go_enter Try.func38, Try.ntmps38
  go_wp2_with (first
    | ((with_reducible refine at_build 10 ?_); go_must (refine wpList_build2 rfl 84 [] rfl [] rfl (pinCells 0 0 zero32) (by kernel_rfl) ?_))
    | (go_at_call 40; fail))
  have b0 : Below w.heap.size w (w.alloc (.cells #[Value.int .u8 97] 5 (1, 2))) := (Below.refl _ _).alloc (Nat.le_refl _) _
  refine (accept_at pin0 5 2 _ 1 1 [97] _ _ A1.out _ rfl (rdB_one (blk_cell' (c := #[Value.int .u8 97]) (blk_new w _) rfl)) hB97.out (Nat.le_refl _) (by decide)).mono ?_
  rintro e w1 ⟨rfl, hb1⟩
  have B1 := bx (b0.trans (hb1.mono b0.size))
  clear b0 hb1
  go_wp2_with (first
    | ((with_reducible refine at_store (.tmp 1) (.tmp 14) ?_); go_must (refine wpList_store_agg (cells := pinCells 5 2 S) rfl 84 (.tmp 1) (.tmp 14) rfl w1.heap.size 0 rfl rfl 84 (pinCells 0 0 zero32) (blk_new w1 _) IS.out (by rw [pin_size _ _ _ HS.out]; decide) (pin_oneCell _ _ _) (pinCells 5 2 S) (pin_put _ rfl _ _ _ HS.out) ?_; intro w2 hu2; have P2 := bx hu2.same; have B2 := bx ((B1.out.alloc B1.out.size _).trans (hu2.below B1.out.size)); have z2 : w1.heap.size < w2.heap.size := blk_lt hu2.same; clear hu2))
    | ((with_reducible refine at_load 17 ?_); go_must (refine wpList_load_agg rfl 84 (.tmp 1) rfl w1.heap.size 0 rfl 84 (pinCells 5 2 S) 34 _ P2.out Try.underlying84 rfl I34.out (by rw [pin_size _ _ _ HS.out]; decide) (pinCells 5 2 S) (pin_all _ _ _ HS.out) ?_))
    | (go_at_call 40; fail))
  have b2 : Below w.heap.size w (w2.alloc (.cells #[Value.int .u8 97] 5 (1, 2))) := B2.out.alloc B2.out.size _
  refine (accept_at ⟨5, 2, S⟩ 4 2 _ 1 1 [97] _ _ A2.out _ HS.out (rdB_one (blk_cell' (c := #[Value.int .u8 97]) (blk_new w2 _) rfl)) hB97.out (Nat.le_refl _) (by decide)).mono ?_
  rintro e w3 ⟨rfl, hb3⟩
  have B3 := bx (b2.trans (hb3.mono b2.size))
  have P3 := bx ((hb3.block w1.heap.size (by simp; omega)).trans (blk_alloc P2.out))
  have z3 : w1.heap.size < w3.heap.size := blk_lt P3.out
  clear b2 hb3 z2 P2
  go_wp2_with (first
    | ((with_reducible refine at_store (.tmp 3) (.tmp 21) ?_); go_must (refine wpList_store_agg (cells := pinCells 0 0 zero32) rfl 84 (.tmp 3) (.tmp 21) rfl w3.heap.size 0 rfl rfl 84 (pinCells 0 0 zero32) (blk_new w3 _) I34.out (by decide) (pin_oneCell _ _ _) (pinCells 0 0 zero32) (pin_put _ rfl _ _ _ rfl) ?_; intro w4 hu4; have P4 := bx (hu4.blk (blk_alloc P3.out) (by omega)); have B4 := bx ((B3.out.alloc B3.out.size _).trans (hu4.below B3.out.size)); have z4 : w1.heap.size < w4.heap.size := blk_lt P4.out; clear hu4 P3 z3))
    | ((with_reducible refine at_load 24 ?_); go_must (refine wpList_load_agg rfl 84 (.tmp 1) rfl w1.heap.size 0 rfl 84 (pinCells 5 2 S) 34 _ P4.out Try.underlying84 rfl I34.out (by rw [pin_size _ _ _ HS.out]; decide) (pinCells 5 2 S) (pin_all _ _ _ HS.out) ?_))
    | (go_at_call 40; fail))
  have b4 : Below w.heap.size w (w4.alloc (.cells #[Value.int .u8 97] 5 (1, 2))) := B4.out.alloc B4.out.size _
  refine (accept_at ⟨5, 2, S⟩ 5 2 _ 1 1 [97] _ _ A3.out _ HS.out (rdB_one (blk_cell' (c := #[Value.int .u8 97]) (blk_new w4 _) rfl)) hB97.out (Nat.le_refl _) (by decide)).mono ?_
  rintro e w5 ⟨rfl, hb5⟩
  have B5 := bx (b4.trans (hb5.mono b4.size))
  have P5 := bx ((hb5.block w1.heap.size (by simp; omega)).trans (blk_alloc P4.out))
  have z5 : w1.heap.size < w5.heap.size := blk_lt P5.out
  clear b4 hb5 z4 P4
  go_wp2_with (first
    | ((with_reducible refine at_store (.tmp 5) (.tmp 28) ?_); go_must (refine wpList_store_agg (cells := pinCells 5 2 S) rfl 84 (.tmp 5) (.tmp 28) rfl w5.heap.size 0 rfl rfl 84 (pinCells 0 0 zero32) (blk_new w5 _) IS.out (by rw [pin_size _ _ _ HS.out]; decide) (pin_oneCell _ _ _) (pinCells 5 2 S) (pin_put _ rfl _ _ _ HS.out) ?_; intro w6 hu6; have P6 := bx (hu6.blk (blk_alloc P5.out) (by omega)); have Q6 := bx hu6.same; have B6 := bx ((B5.out.alloc B5.out.size _).trans (hu6.below B5.out.size)); have z6 : w1.heap.size < w6.heap.size := blk_lt P6.out; have y6 : w5.heap.size < w6.heap.size := blk_lt Q6.out; clear hu6 P5))
    | ((with_reducible refine at_load 31 ?_); go_must (refine wpList_load_agg rfl 84 (.tmp 1) rfl w1.heap.size 0 rfl 84 (pinCells 5 2 S) 34 _ P6.out Try.underlying84 rfl I34.out (by rw [pin_size _ _ _ HS.out]; decide) (pinCells 5 2 S) (pin_all _ _ _ HS.out) ?_))
    | (go_at_call 40; fail))
  have b6 : Below w.heap.size w (w6.alloc (.cells #[Value.int .u8 98] 5 (1, 2))) := B6.out.alloc B6.out.size _
  refine (accept_at ⟨5, 2, S⟩ 5 2 _ 1 1 [98] _ _ A4.out _ HS.out (rdB_one (blk_cell' (c := #[Value.int .u8 98]) (blk_new w6 _) rfl)) hB98.out (Nat.le_refl _) (by decide)).mono ?_
  rintro e w7 ⟨rfl, hb7⟩
  have B7 := bx (b6.trans (hb7.mono b6.size))
  have P7 := bx ((hb7.block w1.heap.size (by simp; omega)).trans (blk_alloc P6.out))
  have Q7 := bx ((hb7.block w5.heap.size (by simp; omega)).trans (blk_alloc Q6.out))
  have z7 : w1.heap.size < w7.heap.size := blk_lt P7.out
  have y7 : w5.heap.size < w7.heap.size := blk_lt Q7.out
  clear b6 hb7 z6 y6 P6 Q6
  have heq : ∀ w, (binOp .eql 84 (.agg (pinCells 5 2 S)) (.agg (pinCells 5 2 S))).run Try.prog w = .ok (.bool true) w := by
    intro w
    have := pin_eql ⟨5, 2, S⟩ ⟨5, 2, S⟩ HS.out HS.out w
    simpa [Pin.val] using this
  have heq2 : ∀ w, (Op.equalIn 10000 84 (.agg (pinCells 5 2 S)) (.agg (pinCells 5 2 S))).run Try.prog w = .ok true w := by
    intro w
    have := pin_eqIn 5 2 5 2 S S HS.out HS.out w
    simpa using this
  go_wp2_with (first
    | ((with_reducible refine at_store (.tmp 7) (.tmp 35) ?_); go_must (refine wpList_store_agg (cells := pinCells 0 0 zero32) rfl 84 (.tmp 7) (.tmp 35) rfl w7.heap.size 0 rfl rfl 84 (pinCells 0 0 zero32) (blk_new w7 _) I34.out (by decide) (pin_oneCell _ _ _) (pinCells 0 0 zero32) (pin_put _ rfl _ _ _ rfl) ?_; intro w8 hu8; have P8 := bx (hu8.blk (blk_alloc P7.out) (by omega)); have Q8 := bx (hu8.blk (blk_alloc Q7.out) (by omega)); have B8 := bx ((B7.out.alloc B7.out.size _).trans (hu8.below B7.out.size)); clear hu8 P7 Q7))
    | ((with_reducible refine at_load 48 ?_); go_must (refine wpList_load_agg rfl 84 (.tmp 5) rfl w5.heap.size 0 rfl 84 (pinCells 5 2 S) 34 _ Q8.out Try.underlying84 rfl I34.out (by rw [pin_size _ _ _ HS.out]; decide) (pinCells 5 2 S) (pin_all _ _ _ HS.out) ?_))
    | ((with_reducible refine at_load 49 ?_); go_must (refine wpList_load_agg rfl 84 (.tmp 1) rfl w1.heap.size 0 rfl 84 (pinCells 5 2 S) 34 _ P8.out Try.underlying84 rfl I34.out (by rw [pin_size _ _ _ HS.out]; decide) (pinCells 5 2 S) (pin_all _ _ _ HS.out) ?_)))
  go_ret
  exact ⟨rfl, B8.out⟩
end Go.Proofs.Ythnommoljikaiaa
