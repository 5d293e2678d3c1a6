/- AcceptTells: the walks over own, the document's Put and Accept. -/
import Derived.Test.YthnommoljikaiaaRef4
import Derived.Test.YthnommoljikaiaaRdr3
import Derived.Test.YthnommoljikaiaaAcc2
set_option linter.unusedSimpArgs false
set_option linter.unusedVariables false
namespace Go.Proofs.Ythnommoljikaiaa
open Go.RowKit

/-- A pin of the document's. -/
def ownCells (g e : Int) (s : ByteArray) : Array Value := #[.int .u64 g, .int .u64 e, .string s]
theorem own_built (g e : Int) (s : ByteArray) : Try.prog.built 94 [(0, .int .u64 g), (1, .int .u64 e), (2, .string s)] = some (ownCells g e s) := by kernel_rfl
theorem own_built0 : Try.prog.built 94 [] = some (ownCells 0 0 ⟨#[]⟩) := by kernel_rfl
theorem ownInfo : (Try.prog.info? 94).map (·.size) = some 3 := by kernel_rfl
theorem own_one (g e : Int) (s : ByteArray) : ∀ v ∈ (ownCells g e s).toList, v.oneCell' = true := by
  intro v hv
  simp only [ownCells, List.mem_cons, List.not_mem_nil, or_false] at hv
  rcases hv with rfl | rfl | rfl <;> rfl
theorem pin_rd {w : World} {b : Nat} {g e : Int} {s : List Int} (hs : s.length = 32) (h : w.heap[b]? = some (.cells (pinCells g e s) 84 (0, 0))) : RdB w (some ⟨b, 2, none⟩) 32 s :=
  ⟨hs, fun _ => ⟨b, 2, rfl, blk_lt h, fun j hj => blk_cell h (by
    have e1 : (pinList g e s)[2 + j]? = some (.int .u8 (s.getD j 0)) := by
      rw [show 2 + j = j + 1 + 1 by omega]
      simp [pinList, List.getD_eq_getElem?_getD, List.getElem?_eq_getElem (show j < s.length by omega)]
    simpa [pinCells] using e1)⟩⟩
set_option maxRecDepth 100000 in
set_option maxHeartbeats 400000 in
theorem own18_any (p : Pin) (w : World) (hp : p.s.length = 32) :
    Calls Try.prog 44 #[p.val] w fun e w' => e = .returned (.agg (ownCells p.g p.e (strOfNums p.s))) ∧ Below w.heap.size w w' := by
  obtain ⟨g, e, s⟩ := p
  dsimp only at hp ⊢
  show Calls Try.prog 44 #[.agg (pinCells g e s)] w _
  obtain ⟨w0, hw0⟩ : ∃ w0, w0 = (w.alloc (.cells (pinCells g e s) 84)).alloc (.cells (ownCells 0 0 ⟨#[]⟩) 94) := ⟨_, rfl⟩
  have K0 : Bx (w0.heap[w.heap.size]? = some (.cells (pinCells g e s) 84 (0, 0))) := ⟨by rw [hw0]; exact heap_alloc2_old w _ _⟩
  have K1 : Bx (w0.heap[w.heap.size + 1]? = some (.cells (ownCells 0 0 ⟨#[]⟩) 94 (0, 0))) := ⟨by rw [hw0]; exact heap_alloc2_new w _ _⟩
  have B0 : Bx (Below w.heap.size w w0) := ⟨by rw [hw0]; exact ((Below.refl _ _).alloc (Nat.le_refl _) _).alloc (by simp) _⟩
  have c0 : w0.cell? ⟨w.heap.size, 0, none⟩ = some (.int .u64 g) := blk_cell K0.out rfl
  have c1 : w0.cell? ⟨w.heap.size, 1, none⟩ = some (.int .u64 e) := blk_cell K0.out rfl
  have sl := fun w' => arr_slice_all (P := Try.prog) Try.underlying81 Try.sizeOf5 w.heap.size 2 w'
  have cv : (convert 22 9 (.slice (some ⟨w.heap.size, 2, none⟩) 32 32)).run Try.prog w0.drew = .ok (.string (strOfNums s)) w0.drew := str_of ((pin_rd hp K0.out).below (Below.refl _ _).drew) 32
  have HW := bx hw0
  clear hp hw0
  generalize strOfNums s = sx at *
  go_enter Try.func44, Try.ntmps44
  go_upto_region 1 with fail
  have E : (w.alloc (.cells (pinCells g e s) 84)).alloc (.cells #[.int .u64 0, .int .u64 0, .string ⟨#[]⟩] 94) = w0 := HW.out.symm
  rw [E]
  clear E HW
  try simp only [Act.put]
  refine region_tailC (fun w' => w' = w0.drew) 7 (by kernel_rfl) (by kernel_rfl) rfl ?_
  simp only [List.take_succ_cons, List.take_zero, List.drop_succ_cons, List.drop_zero]
  repeat (first
    | (refine quiet_take (v := ?_) _ rfl (by kernel_rfl) ?_ ?_; rotate_left 1; (focus (first | (intro w' hw'; clear hw'; unfold Oper.quietAt; go_simp; done) | (intro w' hw'; clear hw'; unfold Oper.quietAt; go_simp; with_reducible rfl) | (intro w' hw'; subst hw'; unfold Oper.quietAt; go_simp; first | done | with_reducible rfl))); try simp only [List.setIfInBounds_toArray, List.set_cons_zero, List.set_cons_succ]))
  refine wpQuiet_nil ?_
  rintro w' rfl
  have K1d : Bx (w0.drew.heap[w.heap.size + 1]? = some (.cells (ownCells 0 0 ⟨#[]⟩) 94 (0, 0))) := ⟨K1.out⟩
  have B0d : Bx (Below w.heap.size w w0.drew) := ⟨B0.out.drew⟩
  generalize w0.drew = w1 at *
  go_wp2_with (first
    | ((with_reducible refine at_build 10 ?_); go_must (refine wpList_build2 rfl 94 [(0, .tmp 4), (1, .tmp 6), (2, .tmp 9)] rfl _ rfl _ (own_built _ _ _) ?_))
    | ((with_reducible refine at_store (.tmp 2) (.tmp 10) ?_); go_must (refine wpList_store_agg (cells := ownCells g e sx) rfl 94 (.tmp 2) (.tmp 10) rfl (w.heap.size + 1) 0 rfl rfl 94 (ownCells 0 0 ⟨#[]⟩) K1d.out ownInfo (Nat.le_refl 3) (own_one _ _ _) (ownCells g e sx) (putRow_all _ _ rfl) ?_; intro w9 hu9)))
  refine bodyPost_ret (v := .agg (ownCells g e sx)) (results_agg (cs := ownCells g e sx) rfl _ _ (w.heap.size + 1) 94 _ rfl hu9.same Try.underlying94 rfl ownInfo) rfl ⟨rfl, ?_⟩
  exact B0d.out.trans (hu9.below (by omega))
set_option maxRecDepth 100000 in
set_option maxHeartbeats 400000 in
theorem rput18_gen (g e : Int) (s0 s1 s2 : ByteArray) (w : World) (hsz : s0.size ≤ 1152921504606846976) (hs2 : s2.size = 16)
    (h1 : ∀ w, Calls Try.prog 86 #[.string ⟨#[]⟩, .int .u64 g, .int .i64 8] w fun x w' => x = .returned (.string s1) ∧ Below w.heap.size w w')
    (h2 : ∀ w, Calls Try.prog 86 #[.string s1, .int .u64 e, .int .i64 8] w fun x w' => x = .returned (.string s2) ∧ Below w.heap.size w w') :
    Calls Try.prog 47 #[.agg (ownCells g e s0)] w fun x w' => x = .returned (.string (s2 ++ s0)) ∧ Below w.heap.size w w' := by
  have H1 := bx h1; have H2 := bx h2
  have hcap : ¬ 9223372036854775807 < 16 + s0.size := by omega
  clear h1 h2
  have K0 : Bx ((w.alloc (.cells #[.int .u64 g, .int .u64 e, .string s0] 94)).heap[w.heap.size]? = some (.cells #[.int .u64 g, .int .u64 e, .string s0] 94 (0, 0))) := ⟨blk_new w _⟩
  have B0 : Bx (Below w.heap.size w (w.alloc (.cells #[.int .u64 g, .int .u64 e, .string s0] 94))) := ⟨(Below.refl _ _).alloc (Nat.le_refl _) _⟩
  show Calls Try.prog 47 #[.agg #[.int .u64 g, .int .u64 e, .string s0]] w _
  go_enter Try.func47, Try.ntmps47
  go_wp2_with fail
  generalize w.alloc (.cells #[.int .u64 g, .int .u64 e, .string s0] 94) = w0 at *
  have HC : Bx (∀ w', Below w0.heap.size w0 w' → w'.cell? ⟨w.heap.size, 0, none⟩ = some (.int .u64 g) ∧ w'.cell? ⟨w.heap.size, 1, none⟩ = some (.int .u64 e) ∧ w'.cell? ⟨w.heap.size, 2, none⟩ = some (.string s0)) := ⟨fun w' hb => by
    have hk := (hb.block _ (blk_lt K0.out)).trans K0.out
    exact ⟨blk_cell hk rfl, blk_cell hk rfl, blk_cell hk rfl⟩⟩
  try simp only [Act.put]
  refine region_quietC (fun w' => Below w0.heap.size w0 w') (by kernel_rfl) (by kernel_rfl) ((Below.refl _ _).drew) ?_
  repeat (first
    | (refine quiet_take (v := ?_) _ rfl (by kernel_rfl) ?_ ?_; rotate_left 1; (focus (first | (intro w' hw'; clear hw'; unfold Oper.quietAt; go_simp; done) | (intro w' hw'; clear hw'; unfold Oper.quietAt; go_simp; with_reducible rfl) | (intro w' hw'; obtain ⟨z0, z1, z2⟩ := HC.out w' hw'; unfold Oper.quietAt; go_simp; first | done | with_reducible rfl | ((with_reducible refine (H1.out w').mono ?_); rintro x w1 ⟨rfl, hb⟩; refine ⟨?_, hw'.trans (hb.mono hw'.size)⟩; with_reducible rfl) | ((with_reducible refine (H2.out w').mono ?_); rintro x w1 ⟨rfl, hb⟩; refine ⟨?_, hw'.trans (hb.mono hw'.size)⟩; with_reducible rfl)))); try simp only [List.setIfInBounds_toArray, List.set_cons_zero, List.set_cons_succ]))
  refine wpQuiet_nil ?_
  intro w' hw'
  go_wp2_with fail
  go_ret
  exact ⟨rfl, B0.out.trans (hw'.mono B0.out.size)⟩
theorem rput18_any (g e : Int) (s : List Int) (w : World) (hs : s.length ≤ 1152921504606846976) (hg : 0 ≤ g ∧ g < 18446744073709551616) (he : 0 ≤ e ∧ e < 18446744073709551616) :
    Calls Try.prog 47 #[.agg (ownCells g e (strOfNums s))] w fun x w' => x = .returned (.string (strOfNums (be g 8 ++ be e 8 ++ s))) ∧ Below w.heap.size w w' := by
  have h := rput18_gen g e (strOfNums s) (strOfNums ([] ++ be g 8)) (strOfNums ([] ++ be g 8 ++ be e 8)) w (by rw [strLen]; exact hs) (by rw [strLen, List.length_append, List.length_append, be_length, be_length]; rfl)
    (fun w => rput_any [] g 8 (by decide) (by decide) hg.1 hg.2 (Nat.zero_le _) w) (fun w => rput_any ([] ++ be g 8) e 8 (by decide) (by decide) he.1 he.2 (by rw [List.length_append, be_length]; simp) w)
  rw [strApp (be g 8 ++ be e 8) s]
  exact h
/-- What the document's Accept tells. -/
def ownRes (r : Pin × Int) : Array Value := if r.2 = 0 then ownCells r.1.g r.1.e (strOfNums r.1.s) else ownCells 0 0 ⟨#[]⟩
set_option maxRecDepth 100000 in
set_option maxHeartbeats 1000000 in
theorem raccept_any (p : Pin) (gen epoch : Int) (bs : List Int) (w : World) (hp : p.s.length = 32) (hpB : IsB p.s) (hB : IsB bs) (hbig : bs.length ≤ 1152921504606846976) :
    Calls Try.prog 43 #[.agg (ownCells p.g p.e (strOfNums p.s)), .int .u64 gen, .string (strOfNums bs), .int .u64 epoch] w fun x w' =>
      x = .returned (.tuple #[.agg (ownRes (acceptOf p gen bs epoch)), .int .i64 (acceptOf p gen bs epoch).2]) ∧ Below w.heap.size w w' := by
  obtain ⟨pg, pe, ps⟩ := p
  dsimp only at hp hpB ⊢
  have HC := bx (fun w => refsum_any bs hB hbig w)
  have HD := bx (str_dec (shaOf_isB bs) hpB)
  have HS := bx (shaOf_length bs)
  obtain ⟨sp, hsp⟩ : ∃ sp, sp = strOfNums ps := ⟨_, rfl⟩
  obtain ⟨sx, hsx⟩ : ∃ sx, sx = strOfNums (shaOf bs) := ⟨_, rfl⟩
  obtain ⟨sb, hsb⟩ : ∃ sb, sb = strOfNums bs := ⟨_, rfl⟩
  rw [← hsp, ← hsx] at HD
  rw [← hsb] at HC
  rw [← hsp, ← hsb]
  have HSX := bx hsx
  have IS : Bx ((Try.prog.info? 81).map (·.size) = some (ints .u8 (shaOf bs)).size) := ⟨by rw [ints_size, HS.out]; kernel_rfl⟩
  have HA : Bx (acceptOf ⟨pg, pe, ps⟩ gen bs epoch = if gen = 0 then (pin0, 11) else if gen < pg ∨ epoch < pe then (pin0, 18) else if gen = pg ∧ shaOf bs ≠ ps then (pin0, 12) else (⟨gen, epoch, shaOf bs⟩, 0)) := ⟨rfl⟩
  clear hsp hsx hsb hp hpB hB
  generalize acceptOf ⟨pg, pe, ps⟩ gen bs epoch = R at *
  generalize shaOf bs = S at *
  have sl := fun (g : Nat) w' => arr_slice_all (P := Try.prog) Try.underlying81 Try.sizeOf5 g 0 w'
  have ZB : Bx (Below w.heap.size w ((w.alloc (.cells #[.int .u64 pg, .int .u64 pe, .string sp] 94)).alloc (.cells #[.int .u64 0, .int .u64 0, .string ⟨#[]⟩] 94))) := ⟨((Below.refl _ _).alloc (Nat.le_refl _) _).alloc (by simp) _⟩
  show Calls Try.prog 43 #[.agg #[.int .u64 pg, .int .u64 pe, .string sp], .int .u64 gen, .string sb, .int .u64 epoch] w _
  by_cases h0 : gen = 0
  · have h0' : (gen == 0) = true := by simp [h0]
    have HR : Bx (R = (pin0, 11)) := ⟨by rw [HA.out, if_pos h0]⟩
    clear h0
    go_enter Try.func43, Try.ntmps43
    go_wp2_with (first
      | ((with_reducible refine at_build 13 ?_); go_must (refine wpList_build2 rfl 94 [] rfl [] rfl (ownCells 0 0 ⟨#[]⟩) own_built0 ?_))
      | ((with_reducible refine at_store (.tmp 8) (.tmp 13) ?_); go_must (refine wpList_store_agg (cells := ownCells 0 0 ⟨#[]⟩) rfl 94 (.tmp 8) (.tmp 13) rfl (w.heap.size + 1) 0 rfl rfl 94 _ (heap_alloc2_new w _ _) ownInfo (Nat.le_refl 3) (own_one _ _ _) (ownCells 0 0 ⟨#[]⟩) (putRow_all _ _ rfl) ?_; intro w3 hu3)))
    rw [HR.out]
    refine bodyPost_ret (results_ct (cs := ownCells 0 0 ⟨#[]⟩) rfl _ _ (w.heap.size + 1) 94 _ _ rfl rfl hu3.same Try.underlying94 rfl ownInfo) rfl ⟨rfl, ZB.out.trans (hu3.below (by omega))⟩
  · have h0' : (gen == 0) = false := by simp [h0]
    by_cases h1 : gen < pg ∨ epoch < pe
    · have HR : Bx (R = (pin0, 18)) := ⟨by rw [HA.out, if_neg h0, if_pos h1]⟩
      have h1' : gen < pg ∨ (¬ gen < pg ∧ epoch < pe) := by omega
      clear h0 h1
      rcases h1' with h1 | ⟨h1, h2⟩
      all_goals
        go_enter Try.func43, Try.ntmps43
        go_wp2_with (first
          | ((with_reducible refine at_build 24 ?_); go_must (refine wpList_build2 rfl 94 [] rfl [] rfl (ownCells 0 0 ⟨#[]⟩) own_built0 ?_))
          | ((with_reducible refine at_store (.tmp 8) (.tmp 24) ?_); go_must (refine wpList_store_agg (cells := ownCells 0 0 ⟨#[]⟩) rfl 94 (.tmp 8) (.tmp 24) rfl (w.heap.size + 1) 0 rfl rfl 94 _ (heap_alloc2_new w _ _) ownInfo (Nat.le_refl 3) (own_one _ _ _) (ownCells 0 0 ⟨#[]⟩) (putRow_all _ _ rfl) ?_; intro w3 hu3)))
        rw [HR.out]
        refine bodyPost_ret (results_ct (cs := ownCells 0 0 ⟨#[]⟩) rfl _ _ (w.heap.size + 1) 94 _ _ rfl rfl hu3.same Try.underlying94 rfl ownInfo) rfl ⟨rfl, ZB.out.trans (hu3.below (by omega))⟩
    · have h1' : ¬ gen < pg := fun h => h1 (.inl h)
      have h2' : ¬ epoch < pe := fun h => h1 (.inr h)
      have HA2 : Bx (R = if gen = pg ∧ S ≠ ps then (pin0, 12) else (⟨gen, epoch, S⟩, 0)) := ⟨by rw [HA.out, if_neg h0, if_neg h1]⟩
      clear h0 h1 HA
      go_enter Try.func43, Try.ntmps43
      go_wp2_with fail
      refine (HC.out _).mono ?_
      rintro x w1 ⟨rfl, hb1⟩
      have K0 := bx ((hb1.block w.heap.size (by simp; omega)).trans (heap_alloc2_old w _ _)); have K1 := bx ((hb1.block (w.heap.size + 1) (by simp)).trans (heap_alloc2_new w _ _)); have B1 := bx (ZB.out.trans (hb1.mono (by simp; omega)))
      clear hb1 HC ZB
      go_upto_region 6 with (first
        | ((with_reducible refine at_store (.tmp 10) (.tmp 26) ?_); go_must (refine wpList_store_agg (cells := ints .u8 S) rfl 81 (.tmp 10) (.tmp 26) rfl w1.heap.size 0 rfl rfl 81 (ints .u8 (List.replicate 32 0)) (blk_new w1 _) IS.out (by rw [ints_size, ints_size, HS.out]; decide) (ints_oneCell _ _) (ints .u8 S) (by rw [putRow_all _ _ (by rw [Array.length_toList, ints_size, ints_size, HS.out]; decide), Array.toArray_toList]) ?_; intro w2 hu2)))
      have K20 := bx (hu2.blk (blk_alloc K0.out) (by have := blk_lt K0.out; omega)); have K21 := bx (hu2.blk (blk_alloc K1.out) (by have := blk_lt K1.out; omega)); have B2 := bx ((B1.out.alloc B1.out.size _).trans (hu2.below B1.out.size))
      have RX : Bx (RdB w2 (some ⟨w1.heap.size, 0, none⟩) 32 S) := ⟨HS.out, fun _ => ⟨_, 0, rfl, blk_lt hu2.same, fun j hj => by rw [Nat.zero_add]; exact blk_int hu2.same j (by rw [HS.out]; exact hj)⟩⟩
      have cvd := str_of (RX.out.below (Below.refl _ _).drew) 32
      rw [← HSX.out] at cvd
      have z0 : w2.cell? ⟨w.heap.size, 0, none⟩ = some (.int .u64 pg) := blk_cell K20.out rfl
      have z2 : w2.cell? ⟨w.heap.size, 2, none⟩ = some (.string sp) := blk_cell K20.out rfl
      have Kd0 : Bx (w2.drew.heap[w.heap.size + 1]? = some (.cells (ownCells 0 0 ⟨#[]⟩) 94 (0, 0))) := ⟨K21.out⟩
      have Bd : Bx (Below w.heap.size w w2.drew) := ⟨B2.out.drew⟩
      clear hu2 K0 K1 B1
      by_cases hg : gen = pg
      · have hg' : (gen == pg) = true := by simp [hg]
        by_cases hq : S = ps
        · have hq1 : (sx.toList == sp.toList) = true := by rw [HD.out, decide_eq_true hq]
          have HR : Bx (R = (⟨gen, epoch, S⟩, 0)) := ⟨by rw [HA2.out, if_neg (fun h => h.2 hq)]⟩
          clear hg hq
          try simp only [Act.put]
          refine region_quietC (fun w' => w' = w2.drew) (by kernel_rfl) (by kernel_rfl) rfl ?_
          repeat (first
            | (refine quiet_take (v := ?_) _ rfl (by kernel_rfl) ?_ ?_; rotate_left 1; (focus (first | (intro w' hw'; clear hw'; unfold Oper.quietAt; go_simp; done) | (intro w' hw'; clear hw'; unfold Oper.quietAt; go_simp; with_reducible rfl) | (intro w' hw'; subst hw'; unfold Oper.quietAt; go_simp; first | done | with_reducible rfl))); try simp only [List.setIfInBounds_toArray, List.set_cons_zero, List.set_cons_succ]))
          refine wpQuiet_nil ?_
          rintro w' rfl
          go_wp2_with (first
            | ((with_reducible refine at_build 43 ?_); go_must (refine wpList_build2 rfl 94 [(0, .tmp 39), (1, .tmp 40), (2, .tmp 42)] rfl _ rfl _ (own_built _ _ _) ?_))
            | ((with_reducible refine at_store (.tmp 8) (.tmp 43) ?_); go_must (refine wpList_store_agg (cells := ownCells gen epoch sx) rfl 94 (.tmp 8) (.tmp 43) rfl (w.heap.size + 1) 0 rfl rfl 94 _ Kd0.out ownInfo (Nat.le_refl 3) (own_one _ _ _) (ownCells gen epoch sx) (putRow_all _ _ rfl) ?_; intro w3 hu3)))
          rw [HR.out]
          have HV : Bx (ownRes (⟨gen, epoch, S⟩, 0) = ownCells gen epoch sx) := ⟨by rw [ownRes, if_pos rfl, HSX.out]⟩
          rw [HV.out]
          refine bodyPost_ret (results_ct (cs := ownCells gen epoch sx) rfl _ _ (w.heap.size + 1) 94 _ _ rfl rfl hu3.same Try.underlying94 rfl ownInfo) rfl ⟨rfl, Bd.out.trans (hu3.below (by omega))⟩
        · have hq1 : (sx.toList == sp.toList) = false := by rw [HD.out, decide_eq_false hq]
          have HR : Bx (R = (pin0, 12)) := ⟨by rw [HA2.out, if_pos ⟨hg, hq⟩]⟩
          clear hg hq
          try simp only [Act.put]
          refine region_quietC (fun w' => w' = w2.drew) (by kernel_rfl) (by kernel_rfl) rfl ?_
          repeat (first
            | (refine quiet_take (v := ?_) _ rfl (by kernel_rfl) ?_ ?_; rotate_left 1; (focus (first | (intro w' hw'; clear hw'; unfold Oper.quietAt; go_simp; done) | (intro w' hw'; clear hw'; unfold Oper.quietAt; go_simp; with_reducible rfl) | (intro w' hw'; subst hw'; unfold Oper.quietAt; go_simp; first | done | with_reducible rfl))); try simp only [List.setIfInBounds_toArray, List.set_cons_zero, List.set_cons_succ]))
          refine wpQuiet_nil ?_
          rintro w' rfl
          go_wp2_with (first
            | ((with_reducible refine at_build 38 ?_); go_must (refine wpList_build2 rfl 94 [] rfl [] rfl (ownCells 0 0 ⟨#[]⟩) own_built0 ?_))
            | ((with_reducible refine at_store (.tmp 8) (.tmp 38) ?_); go_must (refine wpList_store_agg (cells := ownCells 0 0 ⟨#[]⟩) rfl 94 (.tmp 8) (.tmp 38) rfl (w.heap.size + 1) 0 rfl rfl 94 _ Kd0.out ownInfo (Nat.le_refl 3) (own_one _ _ _) (ownCells 0 0 ⟨#[]⟩) (putRow_all _ _ rfl) ?_; intro w3 hu3)))
          rw [HR.out]
          refine bodyPost_ret (results_ct (cs := ownCells 0 0 ⟨#[]⟩) rfl _ _ (w.heap.size + 1) 94 _ _ rfl rfl hu3.same Try.underlying94 rfl ownInfo) rfl ⟨rfl, Bd.out.trans (hu3.below (by omega))⟩
      · have hg' : (gen == pg) = false := by simp [hg]
        have HR : Bx (R = (⟨gen, epoch, S⟩, 0)) := ⟨by rw [HA2.out, if_neg (fun h => hg h.1)]⟩
        clear hg
        try simp only [Act.put]
        refine region_quietC (fun w' => w' = w2.drew) (by kernel_rfl) (by kernel_rfl) rfl ?_
        repeat (first
          | (refine quiet_skip 32 rfl (by kernel_rfl) ?_; try simp only [List.setIfInBounds_toArray, List.set_cons_zero, List.set_cons_succ])
          | (refine quiet_skip 33 rfl (by kernel_rfl) ?_; try simp only [List.setIfInBounds_toArray, List.set_cons_zero, List.set_cons_succ])
          | (refine quiet_skip 34 rfl (by kernel_rfl) ?_; try simp only [List.setIfInBounds_toArray, List.set_cons_zero, List.set_cons_succ])
          | (refine quiet_skip 35 rfl (by kernel_rfl) ?_; try simp only [List.setIfInBounds_toArray, List.set_cons_zero, List.set_cons_succ])
          | (refine quiet_skip 36 rfl (by kernel_rfl) ?_; try simp only [List.setIfInBounds_toArray, List.set_cons_zero, List.set_cons_succ])
          | (refine quiet_take (v := ?_) _ rfl (by kernel_rfl) ?_ ?_; rotate_left 1; (focus (first | (intro w' hw'; clear hw'; unfold Oper.quietAt; go_simp; done) | (intro w' hw'; clear hw'; unfold Oper.quietAt; go_simp; with_reducible rfl) | (intro w' hw'; subst hw'; unfold Oper.quietAt; go_simp; first | done | with_reducible rfl))); try simp only [List.setIfInBounds_toArray, List.set_cons_zero, List.set_cons_succ]))
        refine wpQuiet_nil ?_
        rintro w' rfl
        go_wp2_with (first
          | ((with_reducible refine at_build 43 ?_); go_must (refine wpList_build2 rfl 94 [(0, .tmp 39), (1, .tmp 40), (2, .tmp 42)] rfl _ rfl _ (own_built _ _ _) ?_))
          | ((with_reducible refine at_store (.tmp 8) (.tmp 43) ?_); go_must (refine wpList_store_agg (cells := ownCells gen epoch sx) rfl 94 (.tmp 8) (.tmp 43) rfl (w.heap.size + 1) 0 rfl rfl 94 _ Kd0.out ownInfo (Nat.le_refl 3) (own_one _ _ _) (ownCells gen epoch sx) (putRow_all _ _ rfl) ?_; intro w3 hu3)))
        rw [HR.out]
        have HV : Bx (ownRes (⟨gen, epoch, S⟩, 0) = ownCells gen epoch sx) := ⟨by rw [ownRes, if_pos rfl, HSX.out]⟩
        rw [HV.out]
        refine bodyPost_ret (results_ct (cs := ownCells gen epoch sx) rfl _ _ (w.heap.size + 1) 94 _ _ rfl rfl hu3.same Try.underlying94 rfl ownInfo) rfl ⟨rfl, Bd.out.trans (hu3.below (by omega))⟩
end Go.Proofs.Ythnommoljikaiaa
