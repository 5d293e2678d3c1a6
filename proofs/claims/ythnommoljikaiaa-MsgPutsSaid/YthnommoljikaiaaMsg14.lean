/- Messages: the document's side: list, Text, PutRequest, PutReply. -/
import Derived.Test.YthnommoljikaiaaMsg11
import Derived.Test.YthnommoljikaiaaMsg13
set_option linter.unusedSimpArgs false
set_option linter.unusedVariables false
namespace Go.Proofs.Ythnommoljikaiaa
open Go.RowKit

theorem strsOf_get (flat : List Int) (n j : Nat) (h : j < (strsOf flat n).length) : (strsOf flat n)[j] = strOfNums (nmAt flat j) := by simp [strsOf, nmAt]
theorem nmAt_length {flat : List Int} {n j : Nat} (h : flat.length = 16 * n) (hj : j < n) : (nmAt flat j).length = 16 := by rw [nmAt, List.length_take, List.length_drop, h]; omega
theorem take_nmAt (flat : List Int) (j : Nat) : flat.take (16 * j) ++ nmAt flat j = flat.take (16 * (j + 1)) := by rw [nmAt, show 16 * (j + 1) = 16 * j + 16 by omega, List.take_add]
set_option maxRecDepth 100000 in
set_option maxHeartbeats 800000 in
theorem rlist_any (bs : List Int) (A : Option Addr) (n cap : Nat) (flat : List Int) (w : World) (hr : RdT w A (strsOf flat n)) (hf : flat.length = 16 * n) (hn : n ≤ 65535) (hbig : bs.length ≤ 1099511627776) :
    Calls Try.prog 98 #[.string (strOfNums bs), .slice A n cap] w fun e w' => e = .returned (.string (strOfNums (bs ++ be n 2 ++ flat))) ∧ Below w.heap.size w w' := by
  have HR := bx hr; have HF := bx hf; have HBIG := bx hbig
  have HP := bx (rput_any bs (n : Int) 2 (by decide) (by decide) (by omega) (by omega) (by omega))
  have hw1 : (n : Int) % 18446744073709551616 = n := by omega
  clear hr hf hbig
  generalize hs0 : strOfNums bs = s0 at *
  have HS0 := bx hs0
  clear hs0
  go_enter Try.func98, Try.ntmps98
  go_wp2_with fail
  refine (HP.out w).mono ?_
  rintro e w1 ⟨rfl, hb1⟩
  have B1 := bx hb1
  clear hb1 hw1
  go_wp2_with fail
  go_loopw [0, 5] (fun s i wr => ∃ j : Nat, j ≤ n ∧ i = .int .i64 j ∧ s = .string (strOfNums (bs ++ be n 2 ++ flat.take (16 * j))) ∧ Below w.heap.size w wr) (fun _ i _ => (n - intOf i).toNat)
  case atStart => exact ⟨0, Nat.zero_le _, rfl, by rw [Nat.mul_zero, List.take_zero, List.append_nil], B1.out⟩
  case round =>
    obtain ⟨j, hj, rfl, rfl, hb⟩ := hrel
    have B := bx hb
    clear hb
    by_cases hlt : j < n
    · have hlt' : (j : Int) < n := by omega
      obtain ⟨b, rfl, _, hc⟩ := (HR.out.below B.out) (by rw [strsOf_length]; omega)
      have hcj := hc j (by rw [strsOf_length]; omega)
      rw [strsOf_get] at hcj
      have hl := nmAt_length HF.out hlt
      have HT : Bx (strOfNums (bs ++ be n 2 ++ flat.take (16 * j)) ++ strOfNums (nmAt flat j) = strOfNums (bs ++ be n 2 ++ flat.take (16 * (j + 1)))) := ⟨by rw [← strApp, List.append_assoc, take_nmAt]⟩
      have hs1 : (strOfNums (nmAt flat j)).size = 16 := by rw [strLen, hl]
      have hs2 : (strOfNums (bs ++ be n 2 ++ flat.take (16 * j))).size ≤ 1099511627776 + 2 + 16 * 65535 := by
        rw [strLen, List.length_append, List.length_append, be_length, List.length_take]
        have := HBIG.out
        omega
      clear hc hl
      generalize strOfNums (bs ++ be n 2 ++ flat.take (16 * j)) = sx at *
      generalize strOfNums (nmAt flat j) = sn at *
      go_wp2_with fail
      go_roundw
      case rel => exact ⟨j + 1, by omega, by first | rfl | go_num, by rw [HT.out], B.out⟩
      case measure => simp only [intOf]; omega
    · have hlt' : ¬ (j : Int) < n := by omega
      obtain rfl : j = n := by omega
      rw [List.take_of_length_le (by rw [HF.out]; exact Nat.le_refl _)]
      generalize hsx : strOfNums (bs ++ be j 2 ++ flat) = sx at *
      have HSX := bx hsx
      clear hsx
      go_wp2_with fail
      go_ret
      exact ⟨by first | rfl | (rw [← List.append_assoc, HSX.out]; rfl) | (rw [HSX.out]; rfl), B.out⟩
set_option maxRecDepth 100000 in
set_option maxHeartbeats 800000 in
theorem rtext_any (code : Int) (w : World) : Calls Try.prog 60 #[.int .i64 code] w fun e w' => e = .returned (.string (textOf code)) ∧ Below w.heap.size w w' := by
  have ways : (code < 0 ∧ textOf code = ⟨#[]⟩) ∨ ((¬ code < 0 ∧ 9 < code) ∧ textOf code = ⟨#[]⟩) ∨ code = 0 ∨ code = 1 ∨ code = 2 ∨ code = 3 ∨ code = 4 ∨ code = 5 ∨ code = 6 ∨ code = 7 ∨ code = 8 ∨ code = 9 := by
    by_cases h : code < 0
    · exact .inl ⟨h, by rw [textOf, if_pos (.inl h)]⟩
    · by_cases h2 : 9 < code
      · exact .inr (.inl ⟨⟨h, h2⟩, by rw [textOf, if_pos (.inr (by omega))]⟩)
      · omega
  rcases ways with ⟨h, ht⟩ | ⟨⟨h, h2⟩, ht⟩ | rfl | rfl | rfl | rfl | rfl | rfl | rfl | rfl | rfl | rfl
  · have HT := bx ht
    clear ht
    go_enter Try.func60, Try.ntmps60
    go_wp2_with fail
    go_ret
    exact ⟨by rw [HT.out]; rfl, (Below.refl _ _).alloc (Nat.le_refl _) _⟩
  · have HT := bx ht
    clear ht
    go_enter Try.func60, Try.ntmps60
    go_wp2_with fail
    go_ret
    exact ⟨by rw [HT.out]; rfl, (Below.refl _ _).alloc (Nat.le_refl _) _⟩
  all_goals
    go_enter Try.func60, Try.ntmps60
    go_wp2_with fail
    go_ret
    exact ⟨rfl, (Below.refl _ _).alloc (Nat.le_refl _) _⟩
def rqCells (c i k : Int) (t : ByteArray) (g : Int) (nv : Value) (d : ByteArray) : Array Value := #[.int .i64 c, .int .u64 i, .int .i64 k, .string t, .int .u64 g, nv, .string d]
def rpCells (c i k g : Int) (nv : Value) (d : ByteArray) : Array Value := #[.int .i64 c, .int .u64 i, .int .i64 k, .int .u64 g, nv, .string d]
theorem u64_small {c : Int} (h0 : 0 ≤ c) (h1 : c ≤ 255) : c % 18446744073709551616 = c := by omega
theorem be_one {c : Int} (h0 : 0 ≤ c) (h1 : c ≤ 255) : be c 1 = [c] := by
  have : c % 256 = c := by omega
  simp [be, this]
theorem may_bad {c k lo hi : Int} {nn dn : Nat} (h : mayB c k lo hi nn dn = false) : c < 1 ∨ (¬ c < 1 ∧ 255 < c) ∨ (¬ c < 1 ∧ ¬ 255 < c ∧ k < lo) ∨ (¬ c < 1 ∧ ¬ 255 < c ∧ ¬ k < lo ∧ hi < k) ∨ (¬ c < 1 ∧ ¬ 255 < c ∧ ¬ k < lo ∧ ¬ hi < k ∧ (128 : Int) < nn) ∨ (¬ c < 1 ∧ ¬ 255 < c ∧ ¬ k < lo ∧ ¬ hi < k ∧ ¬ (128 : Int) < nn ∧ (8192 : Int) < dn) := by
  simp [mayB] at h
  omega
set_option maxRecDepth 100000 in
set_option maxHeartbeats 800000 in
theorem rputq_bad (c i k : Int) (t d : ByteArray) (g : Int) (A : Option Addr) (n cap ln : Nat) (w : World) (hd : d.size = ln) (hm : mayB c k 1 6 n ln = false) :
    Calls Try.prog 54 #[.agg (rqCells c i k t g (.slice A n cap) d)] w fun e w' => e = .returned (.tuple #[.string ⟨#[]⟩, .int .i64 2]) ∧ Below w.heap.size w w' := by
  have ways := may_bad hm
  obtain ⟨w0, hw0⟩ : ∃ w0, w0 = w.alloc (.cells (rqCells c i k t g (.slice A n cap) d) 122) := ⟨_, rfl⟩
  have K0 : Bx (w0.heap[w.heap.size]? = some (.cells (rqCells c i k t g (.slice A n cap) d) 122 (0, 0))) := ⟨by rw [hw0]; exact blk_new w _⟩
  have B0 : Bx (Below w.heap.size w w0) := ⟨by rw [hw0]; exact (Below.refl _ _).alloc (Nat.le_refl _) _⟩
  have HC : Bx (∀ w', Below w0.heap.size w0 w' → w'.cell? ⟨w.heap.size, 0, none⟩ = some (.int .i64 c) ∧ w'.cell? ⟨w.heap.size, 1, none⟩ = some (.int .u64 i) ∧ w'.cell? ⟨w.heap.size, 2, none⟩ = some (.int .i64 k) ∧ w'.cell? ⟨w.heap.size, 3, none⟩ = some (.string t) ∧ w'.cell? ⟨w.heap.size, 4, none⟩ = some (.int .u64 g) ∧ w'.cell? ⟨w.heap.size, 5, none⟩ = some (.slice A n cap) ∧ w'.cell? ⟨w.heap.size, 6, none⟩ = some (.string d)) := ⟨fun w' hb => by
    have hk := (hb.block _ (blk_lt K0.out)).trans K0.out
    exact ⟨blk_cell hk rfl, blk_cell hk rfl, blk_cell hk rfl, blk_cell hk rfl, blk_cell hk rfl, blk_cell hk rfl, blk_cell hk rfl⟩⟩
  obtain ⟨z0, z1, z2, z3, z4, z5, z6⟩ := HC.out w0 (Below.refl _ _)
  have HW := bx hw0
  clear hw0 hm K0 HC
  rcases ways with h1 | ⟨h1, h2⟩ | ⟨h1, h2, h3⟩ | ⟨h1, h2, h3, h4⟩ | ⟨h1, h2, h3, h4, h5⟩ | ⟨h1, h2, h3, h4, h5, h6⟩
  all_goals
    go_enter Try.func54, Try.ntmps54
    go_upto_region 1 with fail
    rw [← HW.out]
    clear HW
    go_wp2_with fail
    go_ret2
    exact ⟨rfl, B0.out⟩
set_option maxRecDepth 100000 in
set_option maxHeartbeats 2000000 in
theorem rputq_any (c i k : Int) (nm : List Int) (t d : ByteArray) (g : Int) (A : Option Addr) (n cap : Nat) (flat ds : List Int) (w : World) (h : nm.length = 16) (ht : t = strOfNums nm) (htd : d = strOfNums ds) (hr : RdT w A (strsOf flat n)) (hf : flat.length = 16 * n) (hB : IsB nm) (hB2 : IsB flat) (hB3 : IsB ds)
    (hi : 0 ≤ i ∧ i < 18446744073709551616) (hg : 0 ≤ g ∧ g < 18446744073709551616) (hm : mayB c k 1 6 n ds.length = true) :
    Calls Try.prog 54 #[.agg (rqCells c i k t g (.slice A n cap) d)] w fun e w' => e = .returned (.tuple #[.string (strOfNums (frameOf 1 (bodyM true c k i g nm n flat ds.length ds))), .int .i64 0]) ∧ Below w.heap.size w w' := by
  have hmt := mayB_true hm
  obtain ⟨c1, c2, k1, k2, hn, hd⟩ := hmt
  have LB := bodyM_length (named := true) (c := c) (k := k) (i := i) (g := g) (n2 := n) (n3 := ds.length) (ds := ds) h hf rfl
  have IB : IsB (bodyM true c k i g nm n flat ds.length ds) := bodyM_isB ⟨by omega, by omega⟩ ⟨by omega, by omega⟩ hB hB2 hB3
  have HP1 : Bx (∀ w', Calls Try.prog 86 #[.string ⟨#[]⟩, .int .u64 c, .int .i64 1] w' fun e w'' => e = .returned (.string (strOfNums [c])) ∧ Below w'.heap.size w' w'') := ⟨fun w' => by
    have := rput_any [] c 1 (by decide) (by decide) (by omega) (by omega) (by decide) w'
    rw [be_one (by omega) (by omega)] at this
    exact this⟩
  have HP2 : Bx (∀ w', Calls Try.prog 86 #[.string (strOfNums [c]), .int .u64 i, .int .i64 8] w' fun e w'' => e = .returned (.string (strOfNums ([c] ++ be i 8))) ∧ Below w'.heap.size w' w'') := ⟨fun w' => rput_any [c] i 8 (by decide) (by decide) hi.1 hi.2 (by simp) w'⟩
  have HP3 : Bx (∀ w', Calls Try.prog 86 #[.string (strOfNums ([c] ++ be i 8)), .int .u64 k, .int .i64 1] w' fun e w'' => e = .returned (.string (strOfNums ([c] ++ be i 8 ++ [k]))) ∧ Below w'.heap.size w' w'') := ⟨fun w' => by
    have := rput_any ([c] ++ be i 8) k 1 (by decide) (by decide) (by omega) (by omega) (by simp [be_length]) w'
    rw [be_one (by omega) (by omega)] at this
    exact this⟩
  have HP4 : Bx (∀ w', Calls Try.prog 86 #[.string (strOfNums ([c] ++ be i 8 ++ [k] ++ (if true then nm else []))), .int .u64 g, .int .i64 8] w' fun e w'' => e = .returned (.string (strOfNums (headOf true c k i g nm))) ∧ Below w'.heap.size w' w'') := ⟨fun w' => rput_any _ g 8 (by decide) (by decide) hg.1 hg.2 (by simp [be_length, h]) w'⟩
  have HP5 : Bx (∀ w', Below w.heap.size w w' → Calls Try.prog 98 #[.string (strOfNums (headOf true c k i g nm)), .slice A n cap] w' fun e w'' => e = .returned (.string (strOfNums (headOf true c k i g nm ++ be n 2 ++ flat))) ∧ Below w'.heap.size w' w'') := ⟨fun w' hb =>
    rlist_any _ A n cap flat w' (hr.below hb) hf (by omega) (by rw [headOf_length _ _ _ _ _ _ h]; split <;> omega)⟩
  have HP6 : Bx (∀ w', Calls Try.prog 89 #[.string (strOfNums (headOf true c k i g nm ++ be n 2 ++ flat)), .string d] w' fun e w'' => e = .returned (.string (strOfNums (bodyM true c k i g nm n flat ds.length ds))) ∧ Below w'.heap.size w' w'') := ⟨fun w' => by
    rw [htd]
    exact rsized_any _ ds (by rw [List.length_append, List.length_append, headOf_length _ _ _ _ _ _ h, be_length, hf]; split <;> omega) (by omega) w'⟩
  have HP7 : Bx (∀ w', Calls Try.prog 49 #[.int .i64 1, .string (strOfNums (bodyM true c k i g nm n flat ds.length ds))] w' fun e w'' => e = .returned (.tuple #[.string (strOfNums (frameOf 1 (bodyM true c k i g nm n flat ds.length ds))), .int .i64 0]) ∧ Below w'.heap.size w' w'') := ⟨fun w' => by
    have := rput19_any 1 _ IB (by rw [LB]; split <;> omega) w'
    rw [rput19, if_neg (by decide), if_neg (by rw [LB]; split <;> omega)] at this
    exact this⟩
  have hsn : t.size = 16 := by rw [ht, strLen, h]
  have hsd : d.size = ds.length := by rw [htd]; exact strLen ds
  have hs3 : (strOfNums ([c] ++ be i 8 ++ [k])).size = 10 := by rw [strLen]; simp [be_length]
  have hN' : strOfNums ([c] ++ be i 8 ++ [k]) ++ t = strOfNums ([c] ++ be i 8 ++ [k] ++ nm) := by rw [ht]; exact (strApp _ _).symm
  simp only [if_true, Bool.false_eq_true, if_false, List.append_nil] at HP4
  have HD : ¬ (8192 : Int) < ds.length := by omega
  have HNN : ¬ (128 : Int) < n := by omega
  have HC1 : ¬ c < 1 := by omega
  have HC2 : ¬ 255 < c := by omega
  have HK1 : ¬ k < 1 := by omega
  have HK2 : ¬ 6 < k := by omega
  have hcw : c % 18446744073709551616 = c := u64_small (by omega) (by omega)
  have hkw : k % 18446744073709551616 = k := u64_small (by omega) (by omega)
  have hcw2 : IntKind.u64.wrap c = c := by unfold IntKind.wrap; simp [IntKind.bits, IntKind.signed]; omega
  have hkw2 : IntKind.u64.wrap k = k := by unfold IntKind.wrap; simp [IntKind.bits, IntKind.signed]; omega
  obtain ⟨w0, hw0⟩ : ∃ w0, w0 = w.alloc (.cells (rqCells c i k t g (.slice A n cap) d) 122) := ⟨_, rfl⟩
  have K0 : Bx (w0.heap[w.heap.size]? = some (.cells (rqCells c i k t g (.slice A n cap) d) 122 (0, 0))) := ⟨by rw [hw0]; exact blk_new w _⟩
  have B0 : Bx (Below w.heap.size w w0) := ⟨by rw [hw0]; exact (Below.refl _ _).alloc (Nat.le_refl _) _⟩
  have HC : Bx (∀ w', Below w0.heap.size w0 w' → w'.cell? ⟨w.heap.size, 0, none⟩ = some (.int .i64 c) ∧ w'.cell? ⟨w.heap.size, 1, none⟩ = some (.int .u64 i) ∧ w'.cell? ⟨w.heap.size, 2, none⟩ = some (.int .i64 k) ∧ w'.cell? ⟨w.heap.size, 3, none⟩ = some (.string t) ∧ w'.cell? ⟨w.heap.size, 4, none⟩ = some (.int .u64 g) ∧ w'.cell? ⟨w.heap.size, 5, none⟩ = some (.slice A n cap) ∧ w'.cell? ⟨w.heap.size, 6, none⟩ = some (.string d)) := ⟨fun w' hb => by
    have hk := (hb.block _ (blk_lt K0.out)).trans K0.out
    exact ⟨blk_cell hk rfl, blk_cell hk rfl, blk_cell hk rfl, blk_cell hk rfl, blk_cell hk rfl, blk_cell hk rfl, blk_cell hk rfl⟩⟩
  have HW := bx hw0
  obtain ⟨ln, hln⟩ : ∃ ln, ds.length = ln := ⟨_, rfl⟩
  rw [hln] at hsd HD HP6 HP7 ⊢
  clear hw0 hm K0 hln LB IB hB hB2 hB3 h ht htd hr hf hi hg c1 c2 k1 k2 hn hd
  generalize strOfNums [c] = q1 at *
  generalize strOfNums ([c] ++ be i 8) = q2 at *
  generalize strOfNums ([c] ++ be i 8 ++ [k]) = q3 at *
  generalize strOfNums ([c] ++ be i 8 ++ [k] ++ nm) = q4 at *
  generalize strOfNums (headOf true c k i g nm) = q5 at *
  generalize strOfNums (headOf true c k i g nm ++ be n 2 ++ flat) = q6 at *
  generalize strOfNums (frameOf 1 (bodyM true c k i g nm n flat ln ds)) = q8 at *
  generalize strOfNums (bodyM true c k i g nm n flat ln ds) = q7 at *
  obtain ⟨z0, z1, z2, z3, z4, z5, z6⟩ := HC.out w0 (Below.refl _ _)
  go_enter Try.func54, Try.ntmps54
  go_upto_region 1 with fail
  rw [← HW.out]
  clear HW
  go_upto_region 3 with fail
  clear z0 z1 z2 z3 z4 z5 z6
  try simp only [Act.put]
  refine region_quietC (fun w' => Below w0.heap.size w0 w') (by kernel_rfl) (by kernel_rfl) ((Below.refl _ _).drew) ?_
  repeat (first
    | go_big_quiet_skip
    | (go_big_quiet_want; go_big_quiet_op; go_big_quiet_on)
    | (refine quiet_take (v := ?_) _ rfl (by kernel_rfl) ?_ ?_; rotate_left 1; (focus (first | (intro w' hw'; clear hw'; unfold Oper.quietAt; go_simp; done) | (intro w' hw'; clear hw'; unfold Oper.quietAt; go_simp; with_reducible rfl) | (intro w' hw'; obtain ⟨z0, z1, z2, z3, z4, z5, z6⟩ := HC.out w' hw'; unfold Oper.quietAt; go_simp; first | done | with_reducible rfl | ((with_reducible refine (HP1.out w').mono ?_); rintro x w9 ⟨rfl, hb⟩; refine ⟨?_, hw'.trans (hb.mono hw'.size)⟩; with_reducible rfl) | ((with_reducible refine (HP2.out w').mono ?_); rintro x w9 ⟨rfl, hb⟩; refine ⟨?_, hw'.trans (hb.mono hw'.size)⟩; with_reducible rfl) | ((with_reducible refine (HP3.out w').mono ?_); rintro x w9 ⟨rfl, hb⟩; refine ⟨?_, hw'.trans (hb.mono hw'.size)⟩; with_reducible rfl)))); try simp only [List.setIfInBounds_toArray, List.set_cons_zero, List.set_cons_succ]))
  refine wpQuiet_nil ?_
  intro w1 hw1
  have BW : Bx (∀ w', Below w1.heap.size w1 w' → Below w0.heap.size w0 w') := ⟨fun w' hb => hw1.trans (hb.mono hw1.size)⟩
  clear hw1 HP1 HP2 HP3
  go_wp2_with fail
  try simp only [Act.put]
  refine region_quietC (fun w' => Below w1.heap.size w1 w') (by kernel_rfl) (by kernel_rfl) ((Below.refl _ _).drew) ?_
  repeat (first
    | go_big_quiet_skip
    | (go_big_quiet_want; go_big_quiet_op; go_big_quiet_on)
    | (refine quiet_take (v := ?_) _ rfl (by kernel_rfl) ?_ ?_; rotate_left 1; (focus (first | (intro w' hw'; clear hw'; unfold Oper.quietAt; go_simp; done) | (intro w' hw'; clear hw'; unfold Oper.quietAt; go_simp; with_reducible rfl) | (intro w' hw'; obtain ⟨z0, z1, z2, z3, z4, z5, z6⟩ := HC.out w' (BW.out w' hw'); unfold Oper.quietAt; go_simp; first | done | with_reducible rfl | ((with_reducible refine (HP4.out w').mono ?_); rintro x w9 ⟨rfl, hb⟩; refine ⟨?_, hw'.trans (hb.mono hw'.size)⟩; with_reducible rfl) | ((with_reducible refine (HP5.out w' (B0.out.trans ((BW.out w' hw').mono B0.out.size))).mono ?_); rintro x w9 ⟨rfl, hb⟩; refine ⟨?_, hw'.trans (hb.mono hw'.size)⟩; with_reducible rfl) | ((with_reducible refine (HP6.out w').mono ?_); rintro x w9 ⟨rfl, hb⟩; refine ⟨?_, hw'.trans (hb.mono hw'.size)⟩; with_reducible rfl) | ((with_reducible refine (HP7.out w').mono ?_); rintro x w9 ⟨rfl, hb⟩; refine ⟨?_, hw'.trans (hb.mono hw'.size)⟩; with_reducible rfl)))); try simp only [List.setIfInBounds_toArray, List.set_cons_zero, List.set_cons_succ]))
  refine wpQuiet_nil ?_
  intro w2 hw2
  have B2 := bx (B0.out.trans ((BW.out _ hw2).mono B0.out.size))
  clear hw2
  go_wp2_with fail
  go_ret2
  exact ⟨rfl, B2.out⟩
set_option maxRecDepth 100000 in
set_option maxHeartbeats 800000 in
theorem rputp_bad (c i k : Int) (t d : ByteArray) (g : Int) (A : Option Addr) (n cap ln : Nat) (w : World) (hd : d.size = ln) (hm : mayB c k 0 9 n ln = false) :
    Calls Try.prog 57 #[.agg (rpCells c i k g (.slice A n cap) d)] w fun e w' => e = .returned (.tuple #[.string ⟨#[]⟩, .int .i64 2]) ∧ Below w.heap.size w w' := by
  have ways := may_bad hm
  obtain ⟨w0, hw0⟩ : ∃ w0, w0 = w.alloc (.cells (rpCells c i k g (.slice A n cap) d) 127) := ⟨_, rfl⟩
  have K0 : Bx (w0.heap[w.heap.size]? = some (.cells (rpCells c i k g (.slice A n cap) d) 127 (0, 0))) := ⟨by rw [hw0]; exact blk_new w _⟩
  have B0 : Bx (Below w.heap.size w w0) := ⟨by rw [hw0]; exact (Below.refl _ _).alloc (Nat.le_refl _) _⟩
  have HC : Bx (∀ w', Below w0.heap.size w0 w' → w'.cell? ⟨w.heap.size, 0, none⟩ = some (.int .i64 c) ∧ w'.cell? ⟨w.heap.size, 1, none⟩ = some (.int .u64 i) ∧ w'.cell? ⟨w.heap.size, 2, none⟩ = some (.int .i64 k) ∧ w'.cell? ⟨w.heap.size, 3, none⟩ = some (.int .u64 g) ∧ w'.cell? ⟨w.heap.size, 3, none⟩ = some (.int .u64 g) ∧ w'.cell? ⟨w.heap.size, 4, none⟩ = some (.slice A n cap) ∧ w'.cell? ⟨w.heap.size, 5, none⟩ = some (.string d)) := ⟨fun w' hb => by
    have hk := (hb.block _ (blk_lt K0.out)).trans K0.out
    exact ⟨blk_cell hk rfl, blk_cell hk rfl, blk_cell hk rfl, blk_cell hk rfl, blk_cell hk rfl, blk_cell hk rfl, blk_cell hk rfl⟩⟩
  obtain ⟨z0, z1, z2, z3, z4, z5, z6⟩ := HC.out w0 (Below.refl _ _)
  have HW := bx hw0
  clear hw0 hm K0 HC
  rcases ways with h1 | ⟨h1, h2⟩ | ⟨h1, h2, h3⟩ | ⟨h1, h2, h3, h4⟩ | ⟨h1, h2, h3, h4, h5⟩ | ⟨h1, h2, h3, h4, h5, h6⟩
  all_goals
    go_enter Try.func57, Try.ntmps57
    go_upto_region 1 with fail
    rw [← HW.out]
    clear HW
    go_wp2_with fail
    go_ret2
    exact ⟨rfl, B0.out⟩
set_option maxRecDepth 100000 in
set_option maxHeartbeats 2000000 in
theorem rputp_any (c i k : Int) (nm : List Int) (t d : ByteArray) (g : Int) (A : Option Addr) (n cap : Nat) (flat ds : List Int) (w : World) (h : nm.length = 16) (ht : t = strOfNums nm) (htd : d = strOfNums ds) (hr : RdT w A (strsOf flat n)) (hf : flat.length = 16 * n) (hB : IsB nm) (hB2 : IsB flat) (hB3 : IsB ds)
    (hi : 0 ≤ i ∧ i < 18446744073709551616) (hg : 0 ≤ g ∧ g < 18446744073709551616) (hm : mayB c k 0 9 n ds.length = true) :
    Calls Try.prog 57 #[.agg (rpCells c i k g (.slice A n cap) d)] w fun e w' => e = .returned (.tuple #[.string (strOfNums (frameOf 2 (bodyM false c k i g nm n flat ds.length ds))), .int .i64 0]) ∧ Below w.heap.size w w' := by
  have hmt := mayB_true hm
  obtain ⟨c1, c2, k1, k2, hn, hd⟩ := hmt
  have LB := bodyM_length (named := false) (c := c) (k := k) (i := i) (g := g) (n2 := n) (n3 := ds.length) (ds := ds) h hf rfl
  have IB : IsB (bodyM false c k i g nm n flat ds.length ds) := bodyM_isB ⟨by omega, by omega⟩ ⟨by omega, by omega⟩ hB hB2 hB3
  have HP1 : Bx (∀ w', Calls Try.prog 86 #[.string ⟨#[]⟩, .int .u64 c, .int .i64 1] w' fun e w'' => e = .returned (.string (strOfNums [c])) ∧ Below w'.heap.size w' w'') := ⟨fun w' => by
    have := rput_any [] c 1 (by decide) (by decide) (by omega) (by omega) (by decide) w'
    rw [be_one (by omega) (by omega)] at this
    exact this⟩
  have HP2 : Bx (∀ w', Calls Try.prog 86 #[.string (strOfNums [c]), .int .u64 i, .int .i64 8] w' fun e w'' => e = .returned (.string (strOfNums ([c] ++ be i 8))) ∧ Below w'.heap.size w' w'') := ⟨fun w' => rput_any [c] i 8 (by decide) (by decide) hi.1 hi.2 (by simp) w'⟩
  have HP3 : Bx (∀ w', Calls Try.prog 86 #[.string (strOfNums ([c] ++ be i 8)), .int .u64 k, .int .i64 1] w' fun e w'' => e = .returned (.string (strOfNums ([c] ++ be i 8 ++ [k]))) ∧ Below w'.heap.size w' w'') := ⟨fun w' => by
    have := rput_any ([c] ++ be i 8) k 1 (by decide) (by decide) (by omega) (by omega) (by simp [be_length]) w'
    rw [be_one (by omega) (by omega)] at this
    exact this⟩
  have HP4 : Bx (∀ w', Calls Try.prog 86 #[.string (strOfNums ([c] ++ be i 8 ++ [k] ++ (if false then nm else []))), .int .u64 g, .int .i64 8] w' fun e w'' => e = .returned (.string (strOfNums (headOf false c k i g nm))) ∧ Below w'.heap.size w' w'') := ⟨fun w' => rput_any _ g 8 (by decide) (by decide) hg.1 hg.2 (by simp [be_length, h]) w'⟩
  have HP5 : Bx (∀ w', Below w.heap.size w w' → Calls Try.prog 98 #[.string (strOfNums (headOf false c k i g nm)), .slice A n cap] w' fun e w'' => e = .returned (.string (strOfNums (headOf false c k i g nm ++ be n 2 ++ flat))) ∧ Below w'.heap.size w' w'') := ⟨fun w' hb =>
    rlist_any _ A n cap flat w' (hr.below hb) hf (by omega) (by rw [headOf_length _ _ _ _ _ _ h]; split <;> omega)⟩
  have HP6 : Bx (∀ w', Calls Try.prog 89 #[.string (strOfNums (headOf false c k i g nm ++ be n 2 ++ flat)), .string d] w' fun e w'' => e = .returned (.string (strOfNums (bodyM false c k i g nm n flat ds.length ds))) ∧ Below w'.heap.size w' w'') := ⟨fun w' => by
    rw [htd]
    exact rsized_any _ ds (by rw [List.length_append, List.length_append, headOf_length _ _ _ _ _ _ h, be_length, hf]; split <;> omega) (by omega) w'⟩
  have HP7 : Bx (∀ w', Calls Try.prog 49 #[.int .i64 2, .string (strOfNums (bodyM false c k i g nm n flat ds.length ds))] w' fun e w'' => e = .returned (.tuple #[.string (strOfNums (frameOf 2 (bodyM false c k i g nm n flat ds.length ds))), .int .i64 0]) ∧ Below w'.heap.size w' w'') := ⟨fun w' => by
    have := rput19_any 2 _ IB (by rw [LB]; split <;> omega) w'
    rw [rput19, if_neg (by decide), if_neg (by rw [LB]; split <;> omega)] at this
    exact this⟩
  have hsn : t.size = 16 := by rw [ht, strLen, h]
  have hsd : d.size = ds.length := by rw [htd]; exact strLen ds
  have hs3 : (strOfNums ([c] ++ be i 8 ++ [k])).size = 10 := by rw [strLen]; simp [be_length]
  have hN' : strOfNums ([c] ++ be i 8 ++ [k]) ++ t = strOfNums ([c] ++ be i 8 ++ [k] ++ nm) := by rw [ht]; exact (strApp _ _).symm
  simp only [if_true, Bool.false_eq_true, if_false, List.append_nil] at HP4
  have HD : ¬ (8192 : Int) < ds.length := by omega
  have HNN : ¬ (128 : Int) < n := by omega
  have HC1 : ¬ c < 1 := by omega
  have HC2 : ¬ 255 < c := by omega
  have HK1 : ¬ k < 0 := by omega
  have HK2 : ¬ 9 < k := by omega
  have hcw : c % 18446744073709551616 = c := u64_small (by omega) (by omega)
  have hkw : k % 18446744073709551616 = k := u64_small (by omega) (by omega)
  have hcw2 : IntKind.u64.wrap c = c := by unfold IntKind.wrap; simp [IntKind.bits, IntKind.signed]; omega
  have hkw2 : IntKind.u64.wrap k = k := by unfold IntKind.wrap; simp [IntKind.bits, IntKind.signed]; omega
  obtain ⟨w0, hw0⟩ : ∃ w0, w0 = w.alloc (.cells (rpCells c i k g (.slice A n cap) d) 127) := ⟨_, rfl⟩
  have K0 : Bx (w0.heap[w.heap.size]? = some (.cells (rpCells c i k g (.slice A n cap) d) 127 (0, 0))) := ⟨by rw [hw0]; exact blk_new w _⟩
  have B0 : Bx (Below w.heap.size w w0) := ⟨by rw [hw0]; exact (Below.refl _ _).alloc (Nat.le_refl _) _⟩
  have HC : Bx (∀ w', Below w0.heap.size w0 w' → w'.cell? ⟨w.heap.size, 0, none⟩ = some (.int .i64 c) ∧ w'.cell? ⟨w.heap.size, 1, none⟩ = some (.int .u64 i) ∧ w'.cell? ⟨w.heap.size, 2, none⟩ = some (.int .i64 k) ∧ w'.cell? ⟨w.heap.size, 3, none⟩ = some (.int .u64 g) ∧ w'.cell? ⟨w.heap.size, 3, none⟩ = some (.int .u64 g) ∧ w'.cell? ⟨w.heap.size, 4, none⟩ = some (.slice A n cap) ∧ w'.cell? ⟨w.heap.size, 5, none⟩ = some (.string d)) := ⟨fun w' hb => by
    have hk := (hb.block _ (blk_lt K0.out)).trans K0.out
    exact ⟨blk_cell hk rfl, blk_cell hk rfl, blk_cell hk rfl, blk_cell hk rfl, blk_cell hk rfl, blk_cell hk rfl, blk_cell hk rfl⟩⟩
  have HW := bx hw0
  obtain ⟨ln, hln⟩ : ∃ ln, ds.length = ln := ⟨_, rfl⟩
  rw [hln] at hsd HD HP6 HP7 ⊢
  clear hw0 hm K0 hln LB IB hB hB2 hB3 h ht htd hr hf hi hg c1 c2 k1 k2 hn hd
  generalize strOfNums [c] = q1 at *
  generalize strOfNums ([c] ++ be i 8) = q2 at *
  generalize strOfNums ([c] ++ be i 8 ++ [k]) = q3 at *
  generalize strOfNums ([c] ++ be i 8 ++ [k] ++ nm) = q4 at *
  generalize strOfNums (headOf false c k i g nm) = q5 at *
  generalize strOfNums (headOf false c k i g nm ++ be n 2 ++ flat) = q6 at *
  generalize strOfNums (frameOf 2 (bodyM false c k i g nm n flat ln ds)) = q8 at *
  generalize strOfNums (bodyM false c k i g nm n flat ln ds) = q7 at *
  obtain ⟨z0, z1, z2, z3, z4, z5, z6⟩ := HC.out w0 (Below.refl _ _)
  go_enter Try.func57, Try.ntmps57
  go_upto_region 1 with fail
  rw [← HW.out]
  clear HW
  go_upto_region 3 with fail
  clear z0 z1 z2 z3 z4 z5 z6
  try simp only [Act.put]
  refine region_quietC (fun w' => Below w0.heap.size w0 w') (by kernel_rfl) (by kernel_rfl) ((Below.refl _ _).drew) ?_
  repeat (first
    | go_big_quiet_skip
    | (go_big_quiet_want; go_big_quiet_op; go_big_quiet_on)
    | (refine quiet_take (v := ?_) _ rfl (by kernel_rfl) ?_ ?_; rotate_left 1; (focus (first | (intro w' hw'; clear hw'; unfold Oper.quietAt; go_simp; done) | (intro w' hw'; clear hw'; unfold Oper.quietAt; go_simp; with_reducible rfl) | (intro w' hw'; obtain ⟨z0, z1, z2, z3, z4, z5, z6⟩ := HC.out w' hw'; unfold Oper.quietAt; go_simp; first | done | with_reducible rfl | ((with_reducible refine (HP1.out w').mono ?_); rintro x w9 ⟨rfl, hb⟩; refine ⟨?_, hw'.trans (hb.mono hw'.size)⟩; with_reducible rfl) | ((with_reducible refine (HP2.out w').mono ?_); rintro x w9 ⟨rfl, hb⟩; refine ⟨?_, hw'.trans (hb.mono hw'.size)⟩; with_reducible rfl) | ((with_reducible refine (HP3.out w').mono ?_); rintro x w9 ⟨rfl, hb⟩; refine ⟨?_, hw'.trans (hb.mono hw'.size)⟩; with_reducible rfl)))); try simp only [List.setIfInBounds_toArray, List.set_cons_zero, List.set_cons_succ]))
  refine wpQuiet_nil ?_
  intro w1 hw1
  have BW : Bx (∀ w', Below w1.heap.size w1 w' → Below w0.heap.size w0 w') := ⟨fun w' hb => hw1.trans (hb.mono hw1.size)⟩
  clear hw1 HP1 HP2 HP3
  go_wp2_with fail
  try simp only [Act.put]
  refine region_quietC (fun w' => Below w1.heap.size w1 w') (by kernel_rfl) (by kernel_rfl) ((Below.refl _ _).drew) ?_
  repeat (first
    | go_big_quiet_skip
    | (go_big_quiet_want; go_big_quiet_op; go_big_quiet_on)
    | (refine quiet_take (v := ?_) _ rfl (by kernel_rfl) ?_ ?_; rotate_left 1; (focus (first | (intro w' hw'; clear hw'; unfold Oper.quietAt; go_simp; done) | (intro w' hw'; clear hw'; unfold Oper.quietAt; go_simp; with_reducible rfl) | (intro w' hw'; obtain ⟨z0, z1, z2, z3, z4, z5, z6⟩ := HC.out w' (BW.out w' hw'); unfold Oper.quietAt; go_simp; first | done | with_reducible rfl | ((with_reducible refine (HP4.out w').mono ?_); rintro x w9 ⟨rfl, hb⟩; refine ⟨?_, hw'.trans (hb.mono hw'.size)⟩; with_reducible rfl) | ((with_reducible refine (HP5.out w' (B0.out.trans ((BW.out w' hw').mono B0.out.size))).mono ?_); rintro x w9 ⟨rfl, hb⟩; refine ⟨?_, hw'.trans (hb.mono hw'.size)⟩; with_reducible rfl) | ((with_reducible refine (HP6.out w').mono ?_); rintro x w9 ⟨rfl, hb⟩; refine ⟨?_, hw'.trans (hb.mono hw'.size)⟩; with_reducible rfl) | ((with_reducible refine (HP7.out w').mono ?_); rintro x w9 ⟨rfl, hb⟩; refine ⟨?_, hw'.trans (hb.mono hw'.size)⟩; with_reducible rfl)))); try simp only [List.setIfInBounds_toArray, List.set_cons_zero, List.set_cons_succ]))
  refine wpQuiet_nil ?_
  intro w2 hw2
  have B2 := bx (B0.out.trans ((BW.out _ hw2).mono B0.out.size))
  clear hw2
  go_wp2_with fail
  go_ret2
  exact ⟨rfl, B2.out⟩
end Go.Proofs.Ythnommoljikaiaa
