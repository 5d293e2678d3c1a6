/- Messages: Text(4), one; lengths. -/
import Derived.Test.YthnommoljikaiaaMsg7x
set_option linter.unusedSimpArgs false
set_option linter.unusedVariables false
namespace Go.Proofs.Ythnommoljikaiaa
open Go.RowKit

/-- The request that 'one' puts: what it has within. -/
def oneBody : List Int := [1, 0, 0, 0, 0, 0, 0, 0, 2, 5, 0, 0, 0, 0, 0, 0, 0, 0, 0, 0, 0, 0, 0, 0, 0, 0, 0, 0, 0, 0, 0, 0, 0, 0, 0, 0, 0, 0, 0, 0]
theorem oneBody_is : bodyM true 1 5 2 0 zero16 0 [] 0 [] = oneBody := by decide +kernel
theorem one_put : putM 1 1 6 true 1 5 2 0 zero16 0 [] 0 [] = (frameOf 1 oneBody, 0) := by
  rw [putM, if_pos (by decide), oneBody_is]
def oneMsg : MsgR := ⟨1, 5, 2, 0, zero16, [], []⟩
theorem one_read : readM true oneBody = oneMsg := by kernel_rfl
theorem one_good : goodR 1 1 6 true oneMsg (frameOf 1 oneBody) = true := by
  rw [goodR]
  refine decide_eq_true ?_
  show putM 1 1 6 true 1 5 2 0 zero16 0 [] 0 [] = _
  exact one_put
theorem putM_kind {lo hi : Int} {named : Bool} {c k i g : Int} {nm : List Int} {n2 : Nat} {flat : List Int} {n3 : Nat} {ds : List Int} {L : List Int} (h : putM 2 lo hi named c k i g nm n2 flat n3 ds = (L, 0)) : L.getD 3 0 = 2 := by
  unfold putM at h
  split at h
  · cases h
    rw [frameOf_eq]
    rfl
  · cases h
theorem bad_kind (lo hi : Int) (named : Bool) (m : MsgR) (bs : List Int) : goodR 2 lo hi named m (frameOf 1 bs) = false := by
  rw [goodR]
  refine decide_eq_false fun h => ?_
  have := putM_kind h
  rw [frameOf_eq] at this
  cases this
def texts : List ByteArray := [⟨#[100, 111, 110, 101]⟩, ⟨#[116, 104, 101, 114, 101]⟩, ⟨#[110, 111, 110, 101]⟩, ⟨#[113, 117, 111, 116, 97]⟩, ⟨#[115, 116, 97, 108, 101]⟩, ⟨#[109, 105, 115, 115, 105, 110, 103]⟩, ⟨#[104, 101, 108, 100]⟩, ⟨#[108, 97, 115, 116]⟩, ⟨#[98, 97, 100]⟩, ⟨#[111, 108, 100]⟩]
set_option maxRecDepth 100000 in
set_option maxHeartbeats 400000 in
theorem text4_any (w : World) : Calls Try.prog 59 #[.int .i64 4] w fun e w' => e = .returned (.string ⟨#[115, 116, 97, 108, 101]⟩) ∧ Below w.heap.size w w' := by
  go_enter Try.func59, Try.ntmps59
  go_wp2_with fail
  go_ret
  exact ⟨rfl, (Below.refl _ _).alloc (Nat.le_refl _) _⟩
theorem one_built : Try.prog.built 116 [(0, .int .i64 1), (1, .int .u64 2), (2, .int .i64 5)] = some (reqCells 1 2 5 zero16 0 nilV nilV) := by kernel_rfl
theorem oneBody_isB : IsB oneBody := by rw [← oneBody_is]; exact bodyM_isB (by decide) (by decide) zero16_isB isB_nil isB_nil
set_option maxRecDepth 100000 in
set_option maxHeartbeats 2000000 in
theorem one20_any (w : World) : Calls Try.prog 61 #[] w fun e w' => e = .returned (.bool true) ∧ Below w.heap.size w w' := by
  obtain ⟨L, hL⟩ : ∃ L, frameOf 1 oneBody = L := ⟨_, rfl⟩
  have hln : L.length = 52 := by rw [← hL, frameOf_length]; rfl
  have hLB : IsB L := by rw [← hL]; exact frameM_isB (by decide) oneBody_isB
  have hop : openOf L = (1, oneBody, 0) := by rw [← hL]; exact openOf_frame (by decide) (by decide)
  have hput : putM 1 1 6 true 1 5 2 0 zero16 0 [] 0 [] = (L, 0) := by rw [one_put, hL]
  have hg1 : goodR 1 1 6 true oneMsg L = true := by rw [← hL]; exact one_good
  have hg2 : goodR 2 0 9 false (readM false (openOf L).2.1) L = false := by rw [← hL]; exact bad_kind _ _ _ _ _
  have hrd1 : readM true (openOf L).2.1 = oneMsg := by rw [hop]; exact one_read
  have HLN := bx hln; have HLB := bx hLB
  have HPUT : Bx (∀ w', Calls Try.prog 53 #[.agg (reqCells 1 2 5 zero16 0 nilV nilV)] w' fun e w'' => ∃ A c, e = .returned (.tuple #[.slice A 52 c, .int .i64 0]) ∧ RdB w'' A 52 L ∧ (A = none → c = 0) ∧ 52 ≤ c ∧ Below w'.heap.size w' w'') := ⟨fun w' => by
    have h := putq_any 1 5 2 0 zero16 none 0 0 [] none 0 0 [] w' rfl ⟨rfl, fun h => absurd h (by decide)⟩ ⟨rfl, fun h => absurd h (by decide)⟩ (fun _ => rfl) zero16_isB isB_nil isB_nil (.inl rfl)
    simp only [if_true] at h
    rw [hput] at h
    refine h.mono ?_
    rintro e w'' ⟨A, c, rfl, h1, h2, h3, h4⟩
    dsimp only at h1 h3
    rw [hln] at h1 h3
    refine ⟨A, c, ?_, h1, h2, h3, h4⟩
    rw [← hln]⟩
  have HRQ : Bx (∀ A c w', RdB w' A 52 L → (A = none → c = 0) → 52 ≤ c → Calls Try.prog 62 #[.slice A 52 c] w' fun e w'' => ∃ A2 n2 c2 A3 c3, e = .returned (.tuple #[.agg (reqCells 1 2 5 zero16 0 (.slice A2 n2 c2) (.slice A3 0 c3)), .int .i64 0]) ∧ Below w'.heap.size w' w'') := ⟨fun A c w' h1 h2 h3 => by
    refine (readq_any A 52 c L w' h1 h2 h3 hLB (by decide) oneMsg hrd1).mono ?_
    rintro e w'' ⟨v2, n2, v3, rfl, ho, hv, hb⟩
    obtain ⟨A2, c2, rfl, _, _⟩ := ho.rd
    obtain ⟨A3, c3, rfl, _, _, _⟩ := hv.rdn (n := 0) rfl
    rw [hg1]
    exact ⟨A2, n2, c2, A3, c3, rfl, hb⟩⟩
  have HRP : Bx (∀ A c w', RdB w' A 52 L → (A = none → c = 0) → 52 ≤ c → Calls Try.prog 63 #[.slice A 52 c] w' fun e w'' => e = .returned (.tuple #[.agg (repCells 0 0 0 0 nilV nilV), .int .i64 11]) ∧ Below w'.heap.size w' w'') := ⟨fun A c w' h1 h2 h3 => by
    refine (readp_any A 52 c L w' h1 h2 h3 hLB (by decide) _ rfl).mono ?_
    rintro e w'' ⟨v2, n2, v3, rfl, ho, hv, hb⟩
    rw [hg2]
    exact ⟨rfl, hb⟩⟩
  clear hL hln hLB hop hput hg1 hg2 hrd1
  go_enter Try.func61, Try.ntmps61
  go_wp2_with (first
    | ((with_reducible refine at_build 8 ?_); go_must (refine wpList_build2 rfl 116 [(0, .const (.int .i64 1)), (1, .const (.int .u64 2)), (2, .const (.int .i64 5))] rfl _ rfl _ one_built ?_)))
  refine (HPUT.out _).mono ?_
  rintro e w1 ⟨A, c, rfl, hr, hn, hc, hb⟩
  have R1 := bx hr; have N1 := bx hn; have B1 := bx hb
  clear hr hn hb HPUT
  go_wp2_with fail
  refine (HRQ.out A c _ R1.out N1.out hc).mono ?_
  rintro e w2 ⟨A2, n2, c2, A3, c3, rfl, hb⟩
  have R2 := bx (R1.out.below hb); have B2 := bx (B1.out.trans (hb.mono B1.out.size))
  clear hb R1 B1 HRQ
  go_wp2_with (first
    | ((with_reducible refine at_store (.tmp 3) (.tmp 15) ?_); go_must (refine store_all (cs := reqCells 1 2 5 zero16 0 (.slice A2 n2 c2) (.slice A3 0 c3)) 116 (.tmp 3) (.tmp 15) rfl rfl rfl rfl (blk_new w2 _) (req_is rfl) rfl (req_one _ _ _ _ _ _ _ _ _ _ _) ?_; intro w3 hu3; have b3 := ((Below.refl w2.heap.size w2).alloc (Nat.le_refl _) _).trans (hu3.below (Nat.le_refl _)); have C3 := bx hu3.same; have R3 := bx (R2.out.below b3); have B3 := bx (B2.out.trans (b3.mono B2.out.size)); clear hu3 b3 R2 B2)))
  refine (HRP.out A c _ R3.out N1.out hc).mono ?_
  rintro e w4 ⟨rfl, hb⟩
  have C4 := bx ((hb.block _ (blk_lt C3.out)).trans C3.out); have B4 := bx (B3.out.trans (hb.mono B3.out.size))
  clear hb R3 B3 C3 HRP
  go_wp2_with (first
    | ((with_reducible refine at_store (.tmp 5) (.tmp 20) ?_); go_must (refine store_all (cs := repCells 0 0 0 0 nilV nilV) 118 (.tmp 5) (.tmp 20) rfl rfl rfl rfl (blk_new w4 _) rep_is rfl (rep_one _ _ _ _ _ _ _ _ _ _) ?_; intro w5 hu5; have b5 := ((Below.refl w4.heap.size w4).alloc (Nat.le_refl _) _).trans (hu5.below (Nat.le_refl _)); have C5 := bx ((b5.block _ (blk_lt C4.out)).trans C4.out); have B5 := bx (B4.out.trans (b5.mono B4.out.size)); have q0 : w5.cell? ⟨w2.heap.size, 0, none⟩ = some (.int .i64 1) := blk_cell C5.out rfl; have q1 : w5.cell? ⟨w2.heap.size, 1, none⟩ = some (.int .u64 2) := blk_cell C5.out rfl; have q2 : w5.cell? ⟨w2.heap.size, 2, none⟩ = some (.int .i64 5) := blk_cell C5.out rfl; clear hu5 b5)))
  refine (text4_any _).mono ?_
  rintro e w6 ⟨rfl, hb⟩
  have B6 := bx (B5.out.trans (hb.mono B5.out.size))
  clear hb q0 q1 q2
  go_wp2_with fail
  go_ret
  exact ⟨rfl, B6.out⟩
theorem putM_len {kind lo hi : Int} {named : Bool} {c k i g : Int} {nm : List Int} {n2 : Nat} {flat : List Int} {n3 : Nat} {ds : List Int} (h : nm.length = 16) (h2 : flat.length = 16 * n2) (h3 : ds.length = n3) :
    ((putM kind lo hi named c k i g nm n2 flat n3 ds).2 = 2 ∧ (putM kind lo hi named c k i g nm n2 flat n3 ds).1.length = 0) ∨ ((putM kind lo hi named c k i g nm n2 flat n3 ds).2 = 0 ∧ (putM kind lo hi named c k i g nm n2 flat n3 ds).1.length = (if named then 52 else 36) + 16 * n2 + n3 ∧ n2 ≤ 128 ∧ n3 ≤ 8192) := by
  unfold putM
  split
  · rename_i hm
    have hm := mayB_true hm
    refine .inr ⟨rfl, ?_, hm.2.2.2.2.1, hm.2.2.2.2.2⟩
    show (frameOf _ _).length = _
    rw [frameOf_length, bodyM_length h h2 h3]
    cases named <;> simp <;> omega
  · exact .inl ⟨rfl, rfl⟩
end Go.Proofs.Ythnommoljikaiaa
