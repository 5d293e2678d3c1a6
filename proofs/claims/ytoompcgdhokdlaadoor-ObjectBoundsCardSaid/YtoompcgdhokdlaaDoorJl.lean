/- Objects: the walk over ObjectBounds. Objects: the walk over ObjectBounds. -/
import Derived.Test.YtoompcgdhokdlaaDoorJj
import Derived.Laws.MakeOwn
set_option linter.unusedSimpArgs false
set_option linter.unusedVariables false
namespace Go.Proofs.YtoompcgdhokdlaaDoor
open Go.RowKit

theorem and_le30 (x : Int) (m : Nat) (hm : m < 4611686018427387904) : 0 ≤ bits .and .i64 x m ∧ bits .and .i64 x m ≤ m := by
  have h2 : (BitVec.ofInt 64 (m : Int)).toNat = m := by
    rw [BitVec.ofInt_natCast, BitVec.toNat_ofNat]; exact Nat.mod_eq_of_lt (by omega)
  have hx : (BitVec.ofInt 64 x).toNat &&& m ≤ m := Nat.and_le_right
  have e : bits .and .i64 x m = IntKind.i64.wrap (((BitVec.ofInt 64 x).toNat &&& m : Nat) : Int) := by
    show IntKind.i64.wrap ((BitVec.ofInt 64 x &&& BitVec.ofInt 64 (m : Int)).toNat : Int) = _
    rw [BitVec.toNat_and, h2]
  rw [e, IntWalk.i64_in _ (by omega)]
  omega
def zerosB (n : Nat) : List Int := List.replicate n 0
theorem zerosB_length (n : Nat) : (zerosB n).length = n := List.length_replicate
theorem zerosB_isB (n : Nat) : IsB (zerosB n) := isB_zeros n
theorem made_u8 (n : Nat) : madeCells #[.int .u8 0] n = ints .u8 (zerosB n) := by
  apply Array.ext_getElem?
  intro i
  simp only [madeCells, ints, zerosB, List.map_replicate]
  by_cases hi : i < n
  · simp [hi, Nat.mod_one]
  · simp [hi]
theorem mk_u8 (n : Nat) (hn : n ≤ 16777216) (w : World) : (Instr.makeSlice 33 (.int .i64 n) (.int .i64 n)).run Tryd.prog w = .ok (.slice (some ⟨w.heap.size, 0, none⟩) n n) (w.alloc (.cells (ints .u8 (zerosB n)) 5)) := by
  obtain ⟨i0, hi, hz0, hz1, hz2⟩ := info_parts info8
  have h := run_makeSlice (P := Tryd.prog) (w := w) 33 5 i0 (.int .u8 0) Tryd.underlying33 hi hz0 .i64 .i64 n n (by omega) (Int.le_refl _) (by rw [hz1]; simp; omega) (by rw [hz2]; omega) (by omega)
  rw [h, hz1]
  simp only [Int.toNat_natCast, Nat.mul_one]
  rw [show (Value.int .u8 0).cells = #[.int .u8 0] from rfl, made_u8]
theorem chg_built2 (a x : ByteArray) : Tryd.prog.built 28 [(2, .int .u64 1), (3, .string a), (4, .string x)] = some (chgV zero32 (.slice none 0 0) 1 a x) := by kernel_rfl
theorem id_built1 (c : Int) : Tryd.prog.built 24 [(0, .int .u8 c)] = some (ints .u8 (c :: List.replicate 31 0)) := by kernel_rfl
theorem mark_built3 (a x : ByteArray) : Tryd.prog.built 30 [(1, .string a), (2, .string x)] = some (markCells zero32 a x).toArray := by kernel_rfl
def tagsA : ByteArray := ⟨#[116, 97, 103, 115, 47, 97]⟩
theorem tagsA_kind : kindB tagsA.data.toList = 2 := by decide
def parB (j : Nat) : List Int := (j : Int) :: List.replicate 31 0
theorem parB_length (j : Nat) : (parB j).length = 32 := rfl
theorem parB_isB {j : Nat} (h : j < 256) : IsB (parB j) := isB_cons ⟨by omega, by omega⟩ (isB_zeros 31)
theorem parB_dup : ∀ n, dupUp parB n = false
  | 0 => rfl
  | n + 1 => by
    rw [dupUp_succ, parB_dup n]
    have : parB n ∉ chIds parB n := by
      rw [mem_chIds]
      rintro ⟨i, hi, h⟩
      have := (List.cons.inj h).1
      omega
    simp [this]
def bndC (n m p : Nat) (A : Option Addr) (cap : Nat) : ChgA := { tree := zero32, A := A, n := p, cap := cap, P := parB, time := 1, author := strOfNums (zerosB n), text := strOfNums (zerosB m) }
theorem zstr_size (n : Nat) : (strOfNums (zerosB n)).size = n := by rw [strLen, zerosB_length]
theorem bnd_len (n m p : Nat) (A : Option Addr) (cap : Nat) : (bndC n m p A cap).d.length = 32 + 1 + 32 * p + 8 + (4 + min n 16385) + (4 + min m 16385) := by
  have h1 : ∀ s : ByteArray, (textB s).length = 4 + min s.size 16385 := fun s => by
    rw [textB, List.length_append, be_length, List.length_take, bytesOf_length]
    omega
  show (chUp zero32 parB p p ++ be 1 8 ++ textB (strOfNums (zerosB n)) ++ textB (strOfNums (zerosB m))).length = _
  rw [List.length_append, List.length_append, List.length_append, h1, h1, zstr_size, zstr_size, be_length, chUp_length zero32 parB p p (fun i _ => parB_length i)]
  rfl
theorem bnd_o {n m p : Nat} (A : Option Addr) (cap : Nat) (hp : p ≤ 3) : changeO (bndC n m p A cap) = fitO 3 (bndC n m p A cap).d := by
  unfold changeO
  rw [if_neg (by show ¬ 4 < p; omega), if_neg (by show ¬ dupUp parB p = true; rw [parB_dup]; decide)]
theorem bnd_big {n m p : Nat} (A : Option Addr) (cap : Nat) (hp : p ≤ 3) (h : 16384 < 49 + 32 * p + n + m) : changeO (bndC n m p A cap) = (0, [], 3) := by
  rw [bnd_o A cap hp, fitO, if_pos (by rw [bnd_len]; omega)]
theorem changeO_isBn {c : ChgA} (ht : IsB c.tree) (hP : ∀ j, j < c.n → IsB (c.P j)) : IsB (changeO c).2.1 := by
  unfold changeO
  split
  · exact isB_nil
  · split
    · exact isB_nil
    · refine fitO_isB (isB_append (isB_append (isB_append (isB_append (isB_append ht (isB_one ⟨by omega, by omega⟩)) (isB_flat fun e he => ?_)) (be_isB _ _)) (textB_isB _)) (textB_isB _))
      obtain ⟨i, hi, rfl⟩ := List.mem_map.1 he
      exact hP i (by simpa using hi)
theorem bnd_fit {n m p : Nat} (A : Option Addr) (cap : Nat) (hp : p ≤ 3) (h : 49 + 32 * p + n + m ≤ 16384) : ∃ d, changeO (bndC n m p A cap) = (3, d, 0) ∧ d.length = 49 + 32 * p + n + m ∧ IsB d ∧ chgErr 3 d = 0 ∧ (cgP d).length = p ∧ (strOfNums (stT (cg4 d))).size = n ∧ (strOfNums (stT (cg5 d))).size = m := by
  have e : changeO (bndC n m p A cap) = (3, (bndC n m p A cap).d, 0) := by rw [bnd_o A cap hp, fitO, if_neg (by rw [bnd_len]; omega)]
  obtain ⟨h1, h2, h3, h4, h5, h6⟩ := chg_back e rfl (fun j _ => parB_length j) (by show (0 : Int) ≤ 1; decide) (by show (1 : Int) < _; decide)
  refine ⟨_, e, by rw [bnd_len]; omega, ?_, h6, by rw [h2]; simp [chIds, bndC], by rw [h4]; exact zstr_size n, by rw [h5]; exact zstr_size m⟩
  have := changeO_isBn (c := bndC n m p A cap) zero32_isB (fun j hj => parB_isB (by have : j < p := hj; omega))
  rw [e] at this
  exact this
theorem bnd_mark (m : Nat) (hm : m ≤ 16383) : markO zero32 tagsA (strOfNums (zerosB m)) = (if 46 + m ≤ 16384 then (4, markD zero32 tagsA (strOfNums (zerosB m)), 0) else (0, [], 3)) ∧ (markD zero32 tagsA (strOfNums (zerosB m))).length = 46 + m := by
  have h1 : (markD zero32 tagsA (strOfNums (zerosB m))).length = 46 + m := by
    rw [markD, List.length_append, List.length_append, textB_short (s := tagsA) (by decide), textB_short (s := strOfNums (zerosB m)) (by rw [zstr_size]; omega)]
    simp only [List.length_append, be_length, bytesOf_length, zstr_size]
    show 32 + (4 + 6) + (4 + m) = _
    omega
  refine ⟨?_, h1⟩
  unfold markO
  rw [if_neg (by rw [tagsA_kind]; decide), fitO, h1]
  by_cases h : 46 + m ≤ 16384
  · rw [if_pos h, if_neg (by omega)]
  · rw [if_neg h, if_pos (by omega)]
end Go.Proofs.YtoompcgdhokdlaaDoor

set_option linter.unusedSimpArgs false
set_option linter.unusedVariables false
namespace Go.Proofs.YtoompcgdhokdlaaDoor
open Go.RowKit

theorem ready_list {P : Program} {md : Region.Mode} {ops : Array Oper} {Q : Exit → Act → World → Prop} {fuel : Nat} {listed : Array Bool} {a : Act} {w : World} {i : Nat} {o : Oper} {rs : List Nat} (ho : ops[i]? = some o)
    (h : ∀ Q' : Exit → Act → World → Prop, Shut (∀ a w, wpAny P md ops Q fuel (listed.setIfInBounds i true) a w → wpList P ops Q' [] a w) → wpList P ops Q' [o] a w)
    (hs : AllReady P md ops Q fuel listed a w rs) : AllReady P md ops Q fuel listed a w (i :: rs) := fun j hj => by
  rcases List.mem_cons.1 hj with rfl | hj
  · exact wpOp_ofList ho (h _ (fun a w hW => hW))
  · exact hs j hj
theorem name_alloc {K : World → Prop} {w : World} {o : Obj} (h : ∀ w5, w.alloc o = w5 → K w5) : K (w.alloc o) := h _ rfl
theorem below_of_alloc {w w5 : World} {o : Obj} (h : w.alloc o = w5) : Below w.heap.size w w5 := by rw [← h]; exact (Below.refl _ _).alloc (Nat.le_refl _) _
theorem blk_of_alloc {w w5 : World} {o : Obj} (h : w.alloc o = w5) : w5.heap[w.heap.size]? = some o := by rw [← h]; exact blk_new _ _
theorem rd_of_zeros {w w5 : World} {n : Nat} {T : TypeId} (h : w.alloc (.cells (ints .u8 (zerosB n)) T) = w5) : RdB w5 (some ⟨w.heap.size, 0, none⟩) n (zerosB n) := by
  have := rdB_made w T (zerosB n)
  rw [h, zerosB_length] at this
  exact this
/-- A commit of one's own, under way. -/
def BndAt (w wc : World) (v : Value) (n m : Nat) : Prop := ∃ b, v = .pointer (some ⟨b, 0, none⟩) ∧ w.heap.size ≤ b ∧ wc.heap[b]? = some (.cells (chgV zero32 (.slice none 0 0) 1 (strOfNums (zerosB n)) (strOfNums (zerosB m))) 28 (0, 0)) ∧ Below w.heap.size w wc
set_option maxRecDepth 100000 in
set_option maxHeartbeats 4000000 in
theorem bounds_any (x y z : Int) (w : World) (hM : MaxAt w) :
    Calls Tryd.prog 4 #[.int .i64 x, .int .i64 y, .int .i64 z] w fun e w' => e = .returned (.bool true) ∧ Below w.heap.size w w' := by
  obtain ⟨n0, hn0, hn1⟩ : ∃ n : Nat, bits .and .i64 x 32767 = n ∧ n ≤ 32767 := by
    have : 0 ≤ bits .and .i64 x 32767 ∧ bits .and .i64 x 32767 ≤ 32767 := and_le30 x 32767 (by decide)
    exact ⟨(bits .and .i64 x 32767).toNat, by omega, by omega⟩
  obtain ⟨m, hm0, hm1⟩ : ∃ n : Nat, bits .and .i64 y 16383 = n ∧ n ≤ 16383 := by
    have : 0 ≤ bits .and .i64 y 16383 ∧ bits .and .i64 y 16383 ≤ 16383 := and_le30 y 16383 (by decide)
    exact ⟨(bits .and .i64 y 16383).toNat, by omega, by omega⟩
  obtain ⟨p, hp0, hp1⟩ : ∃ n : Nat, bits .and .i64 z 3 = n ∧ n ≤ 3 := by
    have : 0 ≤ bits .and .i64 z 3 ∧ bits .and .i64 z 3 ≤ 3 := and_le30 z 3 (by decide)
    exact ⟨(bits .and .i64 z 3).toNat, by omega, by omega⟩
  obtain ⟨n2, hn2, hn3⟩ : ∃ n : Nat, bits .and .i64 n0 255 = n ∧ n ≤ 255 := by
    have : 0 ≤ bits .and .i64 n0 255 ∧ bits .and .i64 n0 255 ≤ 255 := and_le30 n0 255 (by decide)
    exact ⟨(bits .and .i64 n0 255).toNat, by omega, by omega⟩
  have HM := bx hM
  clear hM
  go_enter Tryd.func4, Tryd.ntmps4
  go_upto_if 21 with fail
  go_cut [0] from 22 to 24 (fun v wc => ∃ n : Nat, v = .int .i64 n ∧ n ≤ 16455 ∧ w = wc)
  case first =>
    by_cases h : (16400 : Int) < n0
    · have e : IntKind.i64.wrap (16200 + (n2 : Int)) = ((16200 + n2 : Nat) : Int) := by rw [IntWalk.i64_in _ (by omega)]; omega
      go_wp2_with fail
      go_meet
      case rel => exact ⟨16200 + n2, rfl, by omega, rfl⟩
    · go_wp2_with fail
      go_meet
      case rel => exact ⟨n0, rfl, by omega, rfl⟩
  case rest =>
    rename World => wx
    obtain ⟨n, rfl, hn, rfl⟩ := hcut
    clear hn0 hn1 hn2 hn3 hm0
    have hk1 := mk_u8 n (by omega); have hk2 := mk_u8 m (by omega)
    go_upto_region 5 with fail
    clear hp0
    go_cut [7] from 27 to 34 (fun v wc => BndAt w wc v n m)
    case first =>
      have DD := bx ((Below.refl w.heap.size w).drew)
      refine wp_region_any (by kernel_rfl) ?_
      change wpAny _ _ _ _ _ _ _ (World.drew _)
      generalize World.drew w = wq at *
      refine wpAny_take (i := 0) (v := ?_) rfl (by kernel_rfl) (by kernel_rfl) (by kernel_rfl) (fun _ _ _ h => h) (Or.inl ⟨by kernel_rfl, ?_⟩) ?_; rotate_left 1; (focus (intro w; go_simp; try with_reducible rfl; done))
      try simp only [Act.put, List.setIfInBounds_toArray, List.set_cons_zero, List.set_cons_succ]
      refine wpAny_take (i := 3) (v := ?_) rfl (by kernel_rfl) (by kernel_rfl) (by kernel_rfl) (fun _ _ _ h => h) (Or.inl ⟨by kernel_rfl, ?_⟩) ?_; rotate_left 1; (focus (intro w; go_simp; try with_reducible rfl; done))
      try simp only [Act.put, List.setIfInBounds_toArray, List.set_cons_zero, List.set_cons_succ]
      refine wpAny_ready (rs := [1, 4, 7]) (by kernel_rfl) (by simp) ?_
      refine AllReady.cons rfl (fun K hK => ?_) ?_
      · go_simp
        refine name_alloc (K := K _) ?_
        intro w5 h5
        have F5 := below_of_alloc h5
        try replace RB := bx (RB.out.below F5)
        try replace K7 := bx ((F5.block _ (blk_lt K7.out)).trans K7.out)
        replace DD := bx (DD.out.trans (F5.mono DD.out.size))
        have RA := bx (rd_of_zeros h5)
        clear F5 h5
        refine hK _ _ ?_; clear hK K
        try simp only [Act.put, List.setIfInBounds_toArray, List.set_cons_zero, List.set_cons_succ]
        refine wpAny_ready (rs := [2, 4, 7]) (by kernel_rfl) (by simp) ?_
        refine AllReady.cons rfl (fun K hK => ?_) ?_
        · have hcv := str_of RA.out n
          go_simp
          clear hcv
          refine hK _ _ ?_; clear hK K
          try simp only [Act.put, List.setIfInBounds_toArray, List.set_cons_zero, List.set_cons_succ]
          refine wpAny_ready (rs := [4, 7]) (by kernel_rfl) (by simp) ?_
          refine AllReady.cons rfl (fun K hK => ?_) ?_
          · go_simp
            refine name_alloc (K := K _) ?_
            intro w5 h5
            have F5 := below_of_alloc h5
            try replace RA := bx (RA.out.below F5)
            try replace K7 := bx ((F5.block _ (blk_lt K7.out)).trans K7.out)
            replace DD := bx (DD.out.trans (F5.mono DD.out.size))
            have RB := bx (rd_of_zeros h5)
            clear F5 h5
            refine hK _ _ ?_; clear hK K
            try simp only [Act.put, List.setIfInBounds_toArray, List.set_cons_zero, List.set_cons_succ]
            refine wpAny_ready (rs := [5, 7]) (by kernel_rfl) (by simp) ?_
            refine AllReady.cons rfl (fun K hK => ?_) ?_
            · have hcv := str_of RB.out m
              go_simp
              clear hcv
              refine hK _ _ ?_; clear hK K
              try simp only [Act.put, List.setIfInBounds_toArray, List.set_cons_zero, List.set_cons_succ]
              refine wpAny_ready (rs := [6, 7]) (by kernel_rfl) (by simp) ?_
              refine ready_list rfl (fun K hK => ?_) ?_
              · refine wpList_build3 rfl 28 [(2, .const (.int .u64 1)), (3, .tmp 29), (4, .tmp 32)] rfl _ rfl _ (chg_built2 _ _) ?_
                show wpList _ _ K [] (Act.put _ (some 33) _) _
                refine hK.out _ _ ?_; clear hK K
                try simp only [Act.put, List.setIfInBounds_toArray, List.set_cons_zero, List.set_cons_succ]
                refine wpAny_ready (rs := [7]) (by kernel_rfl) (by simp) ?_
                refine AllReady.cons rfl (fun K hK => ?_) ?_
                · go_simp
                  refine name_alloc (K := K _) ?_
                  intro w5 h5
                  have F5 := below_of_alloc h5
                  try replace RA := bx (RA.out.below F5)
                  try replace RB := bx (RB.out.below F5)
                  have hbs := DD.out.size
                  replace DD := bx (DD.out.trans (F5.mono DD.out.size))
                  have K7 := bx (blk_of_alloc h5)
                  clear F5 h5
                  refine hK _ _ ?_; clear hK K
                  try simp only [Act.put, List.setIfInBounds_toArray, List.set_cons_zero, List.set_cons_succ]
                  refine wpAny_ready (rs := [8]) (by kernel_rfl) (by simp) ?_
                  refine ready_list rfl (fun K hK => ?_) ?_
                  · refine store_all (cs := chgV zero32 (.slice none 0 0) 1 (strOfNums (zerosB n)) (strOfNums (zerosB m))) 28 (.tmp 7) (.tmp 33) rfl rfl rfl rfl K7.out (chgV_is rfl _ _ _ _) (by rw [chgV_size rfl]; rfl) (chgV_one _ rfl _ _ _) ?_
                    intro w9 hu9
                    have R9 := bx hu9.same
                    have D9 := bx (DD.out.trans (hu9.below hbs))
                    clear hu9
                    show wpList _ _ K [] (Act.put _ none undef) w9
                    refine hK.out _ _ ?_; clear hK K
                    try simp only [Act.put, List.setIfInBounds_toArray, List.set_cons_zero, List.set_cons_succ]
                    refine wpAny_done (by kernel_rfl) ?_ _
                    go_wp2_with fail
                    go_meet
                    case rel => exact ⟨_, rfl, hbs, R9.out, D9.out⟩
                  exact AllReady.nil
                exact AllReady.nil
              refine AllReady.cons rfl (fun K hK => ?_) ?_
              · go_simp
                refine name_alloc (K := K _) ?_
                intro w5 h5
                have F5 := below_of_alloc h5
                try replace RA := bx (RA.out.below F5)
                try replace RB := bx (RB.out.below F5)
                have hbs := DD.out.size
                replace DD := bx (DD.out.trans (F5.mono DD.out.size))
                have K7 := bx (blk_of_alloc h5)
                clear F5 h5
                refine hK _ _ ?_; clear hK K
                try simp only [Act.put, List.setIfInBounds_toArray, List.set_cons_zero, List.set_cons_succ]
                refine wpAny_ready (rs := [6]) (by kernel_rfl) (by simp) ?_
                refine ready_list rfl (fun K hK => ?_) ?_
                · refine wpList_build3 rfl 28 [(2, .const (.int .u64 1)), (3, .tmp 29), (4, .tmp 32)] rfl _ rfl _ (chg_built2 _ _) ?_
                  show wpList _ _ K [] (Act.put _ (some 33) _) _
                  refine hK.out _ _ ?_; clear hK K
                  try simp only [Act.put, List.setIfInBounds_toArray, List.set_cons_zero, List.set_cons_succ]
                  refine wpAny_ready (rs := [8]) (by kernel_rfl) (by simp) ?_
                  refine ready_list rfl (fun K hK => ?_) ?_
                  · refine store_all (cs := chgV zero32 (.slice none 0 0) 1 (strOfNums (zerosB n)) (strOfNums (zerosB m))) 28 (.tmp 7) (.tmp 33) rfl rfl rfl rfl K7.out (chgV_is rfl _ _ _ _) (by rw [chgV_size rfl]; rfl) (chgV_one _ rfl _ _ _) ?_
                    intro w9 hu9
                    have R9 := bx hu9.same
                    have D9 := bx (DD.out.trans (hu9.below hbs))
                    clear hu9
                    show wpList _ _ K [] (Act.put _ none undef) w9
                    refine hK.out _ _ ?_; clear hK K
                    try simp only [Act.put, List.setIfInBounds_toArray, List.set_cons_zero, List.set_cons_succ]
                    refine wpAny_done (by kernel_rfl) ?_ _
                    go_wp2_with fail
                    go_meet
                    case rel => exact ⟨_, rfl, hbs, R9.out, D9.out⟩
                  exact AllReady.nil
                exact AllReady.nil
              exact AllReady.nil
            refine AllReady.cons rfl (fun K hK => ?_) ?_
            · go_simp
              refine name_alloc (K := K _) ?_
              intro w5 h5
              have F5 := below_of_alloc h5
              try replace RA := bx (RA.out.below F5)
              try replace RB := bx (RB.out.below F5)
              have hbs := DD.out.size
              replace DD := bx (DD.out.trans (F5.mono DD.out.size))
              have K7 := bx (blk_of_alloc h5)
              clear F5 h5
              refine hK _ _ ?_; clear hK K
              try simp only [Act.put, List.setIfInBounds_toArray, List.set_cons_zero, List.set_cons_succ]
              refine wpAny_ready (rs := [5]) (by kernel_rfl) (by simp) ?_
              refine AllReady.cons rfl (fun K hK => ?_) ?_
              · have hcv := str_of RB.out m
                go_simp
                clear hcv
                refine hK _ _ ?_; clear hK K
                try simp only [Act.put, List.setIfInBounds_toArray, List.set_cons_zero, List.set_cons_succ]
                refine wpAny_ready (rs := [6]) (by kernel_rfl) (by simp) ?_
                refine ready_list rfl (fun K hK => ?_) ?_
                · refine wpList_build3 rfl 28 [(2, .const (.int .u64 1)), (3, .tmp 29), (4, .tmp 32)] rfl _ rfl _ (chg_built2 _ _) ?_
                  show wpList _ _ K [] (Act.put _ (some 33) _) _
                  refine hK.out _ _ ?_; clear hK K
                  try simp only [Act.put, List.setIfInBounds_toArray, List.set_cons_zero, List.set_cons_succ]
                  refine wpAny_ready (rs := [8]) (by kernel_rfl) (by simp) ?_
                  refine ready_list rfl (fun K hK => ?_) ?_
                  · refine store_all (cs := chgV zero32 (.slice none 0 0) 1 (strOfNums (zerosB n)) (strOfNums (zerosB m))) 28 (.tmp 7) (.tmp 33) rfl rfl rfl rfl K7.out (chgV_is rfl _ _ _ _) (by rw [chgV_size rfl]; rfl) (chgV_one _ rfl _ _ _) ?_
                    intro w9 hu9
                    have R9 := bx hu9.same
                    have D9 := bx (DD.out.trans (hu9.below hbs))
                    clear hu9
                    show wpList _ _ K [] (Act.put _ none undef) w9
                    refine hK.out _ _ ?_; clear hK K
                    try simp only [Act.put, List.setIfInBounds_toArray, List.set_cons_zero, List.set_cons_succ]
                    refine wpAny_done (by kernel_rfl) ?_ _
                    go_wp2_with fail
                    go_meet
                    case rel => exact ⟨_, rfl, hbs, R9.out, D9.out⟩
                  exact AllReady.nil
                exact AllReady.nil
              exact AllReady.nil
            exact AllReady.nil
          refine AllReady.cons rfl (fun K hK => ?_) ?_
          · go_simp
            refine name_alloc (K := K _) ?_
            intro w5 h5
            have F5 := below_of_alloc h5
            try replace RA := bx (RA.out.below F5)
            try replace RB := bx (RB.out.below F5)
            have hbs := DD.out.size
            replace DD := bx (DD.out.trans (F5.mono DD.out.size))
            have K7 := bx (blk_of_alloc h5)
            clear F5 h5
            refine hK _ _ ?_; clear hK K
            try simp only [Act.put, List.setIfInBounds_toArray, List.set_cons_zero, List.set_cons_succ]
            refine wpAny_ready (rs := [4]) (by kernel_rfl) (by simp) ?_
            refine AllReady.cons rfl (fun K hK => ?_) ?_
            · go_simp
              refine name_alloc (K := K _) ?_
              intro w5 h5
              have F5 := below_of_alloc h5
              try replace RA := bx (RA.out.below F5)
              try replace K7 := bx ((F5.block _ (blk_lt K7.out)).trans K7.out)
              replace DD := bx (DD.out.trans (F5.mono DD.out.size))
              have RB := bx (rd_of_zeros h5)
              clear F5 h5
              refine hK _ _ ?_; clear hK K
              try simp only [Act.put, List.setIfInBounds_toArray, List.set_cons_zero, List.set_cons_succ]
              refine wpAny_ready (rs := [5]) (by kernel_rfl) (by simp) ?_
              refine AllReady.cons rfl (fun K hK => ?_) ?_
              · have hcv := str_of RB.out m
                go_simp
                clear hcv
                refine hK _ _ ?_; clear hK K
                try simp only [Act.put, List.setIfInBounds_toArray, List.set_cons_zero, List.set_cons_succ]
                refine wpAny_ready (rs := [6]) (by kernel_rfl) (by simp) ?_
                refine ready_list rfl (fun K hK => ?_) ?_
                · refine wpList_build3 rfl 28 [(2, .const (.int .u64 1)), (3, .tmp 29), (4, .tmp 32)] rfl _ rfl _ (chg_built2 _ _) ?_
                  show wpList _ _ K [] (Act.put _ (some 33) _) _
                  refine hK.out _ _ ?_; clear hK K
                  try simp only [Act.put, List.setIfInBounds_toArray, List.set_cons_zero, List.set_cons_succ]
                  refine wpAny_ready (rs := [8]) (by kernel_rfl) (by simp) ?_
                  refine ready_list rfl (fun K hK => ?_) ?_
                  · refine store_all (cs := chgV zero32 (.slice none 0 0) 1 (strOfNums (zerosB n)) (strOfNums (zerosB m))) 28 (.tmp 7) (.tmp 33) rfl rfl rfl rfl K7.out (chgV_is rfl _ _ _ _) (by rw [chgV_size rfl]; rfl) (chgV_one _ rfl _ _ _) ?_
                    intro w9 hu9
                    have R9 := bx hu9.same
                    have D9 := bx (DD.out.trans (hu9.below hbs))
                    clear hu9
                    show wpList _ _ K [] (Act.put _ none undef) w9
                    refine hK.out _ _ ?_; clear hK K
                    try simp only [Act.put, List.setIfInBounds_toArray, List.set_cons_zero, List.set_cons_succ]
                    refine wpAny_done (by kernel_rfl) ?_ _
                    go_wp2_with fail
                    go_meet
                    case rel => exact ⟨_, rfl, hbs, R9.out, D9.out⟩
                  exact AllReady.nil
                exact AllReady.nil
              exact AllReady.nil
            exact AllReady.nil
          exact AllReady.nil
        refine AllReady.cons rfl (fun K hK => ?_) ?_
        · go_simp
          refine name_alloc (K := K _) ?_
          intro w5 h5
          have F5 := below_of_alloc h5
          try replace RA := bx (RA.out.below F5)
          try replace K7 := bx ((F5.block _ (blk_lt K7.out)).trans K7.out)
          replace DD := bx (DD.out.trans (F5.mono DD.out.size))
          have RB := bx (rd_of_zeros h5)
          clear F5 h5
          refine hK _ _ ?_; clear hK K
          try simp only [Act.put, List.setIfInBounds_toArray, List.set_cons_zero, List.set_cons_succ]
          refine wpAny_ready (rs := [2, 5, 7]) (by kernel_rfl) (by simp) ?_
          refine AllReady.cons rfl (fun K hK => ?_) ?_
          · have hcv := str_of RA.out n
            go_simp
            clear hcv
            refine hK _ _ ?_; clear hK K
            try simp only [Act.put, List.setIfInBounds_toArray, List.set_cons_zero, List.set_cons_succ]
            refine wpAny_ready (rs := [5, 7]) (by kernel_rfl) (by simp) ?_
            refine AllReady.cons rfl (fun K hK => ?_) ?_
            · have hcv := str_of RB.out m
              go_simp
              clear hcv
              refine hK _ _ ?_; clear hK K
              try simp only [Act.put, List.setIfInBounds_toArray, List.set_cons_zero, List.set_cons_succ]
              refine wpAny_ready (rs := [6, 7]) (by kernel_rfl) (by simp) ?_
              refine ready_list rfl (fun K hK => ?_) ?_
              · refine wpList_build3 rfl 28 [(2, .const (.int .u64 1)), (3, .tmp 29), (4, .tmp 32)] rfl _ rfl _ (chg_built2 _ _) ?_
                show wpList _ _ K [] (Act.put _ (some 33) _) _
                refine hK.out _ _ ?_; clear hK K
                try simp only [Act.put, List.setIfInBounds_toArray, List.set_cons_zero, List.set_cons_succ]
                refine wpAny_ready (rs := [7]) (by kernel_rfl) (by simp) ?_
                refine AllReady.cons rfl (fun K hK => ?_) ?_
                · go_simp
                  refine name_alloc (K := K _) ?_
                  intro w5 h5
                  have F5 := below_of_alloc h5
                  try replace RA := bx (RA.out.below F5)
                  try replace RB := bx (RB.out.below F5)
                  have hbs := DD.out.size
                  replace DD := bx (DD.out.trans (F5.mono DD.out.size))
                  have K7 := bx (blk_of_alloc h5)
                  clear F5 h5
                  refine hK _ _ ?_; clear hK K
                  try simp only [Act.put, List.setIfInBounds_toArray, List.set_cons_zero, List.set_cons_succ]
                  refine wpAny_ready (rs := [8]) (by kernel_rfl) (by simp) ?_
                  refine ready_list rfl (fun K hK => ?_) ?_
                  · refine store_all (cs := chgV zero32 (.slice none 0 0) 1 (strOfNums (zerosB n)) (strOfNums (zerosB m))) 28 (.tmp 7) (.tmp 33) rfl rfl rfl rfl K7.out (chgV_is rfl _ _ _ _) (by rw [chgV_size rfl]; rfl) (chgV_one _ rfl _ _ _) ?_
                    intro w9 hu9
                    have R9 := bx hu9.same
                    have D9 := bx (DD.out.trans (hu9.below hbs))
                    clear hu9
                    show wpList _ _ K [] (Act.put _ none undef) w9
                    refine hK.out _ _ ?_; clear hK K
                    try simp only [Act.put, List.setIfInBounds_toArray, List.set_cons_zero, List.set_cons_succ]
                    refine wpAny_done (by kernel_rfl) ?_ _
                    go_wp2_with fail
                    go_meet
                    case rel => exact ⟨_, rfl, hbs, R9.out, D9.out⟩
                  exact AllReady.nil
                exact AllReady.nil
              refine AllReady.cons rfl (fun K hK => ?_) ?_
              · go_simp
                refine name_alloc (K := K _) ?_
                intro w5 h5
                have F5 := below_of_alloc h5
                try replace RA := bx (RA.out.below F5)
                try replace RB := bx (RB.out.below F5)
                have hbs := DD.out.size
                replace DD := bx (DD.out.trans (F5.mono DD.out.size))
                have K7 := bx (blk_of_alloc h5)
                clear F5 h5
                refine hK _ _ ?_; clear hK K
                try simp only [Act.put, List.setIfInBounds_toArray, List.set_cons_zero, List.set_cons_succ]
                refine wpAny_ready (rs := [6]) (by kernel_rfl) (by simp) ?_
                refine ready_list rfl (fun K hK => ?_) ?_
                · refine wpList_build3 rfl 28 [(2, .const (.int .u64 1)), (3, .tmp 29), (4, .tmp 32)] rfl _ rfl _ (chg_built2 _ _) ?_
                  show wpList _ _ K [] (Act.put _ (some 33) _) _
                  refine hK.out _ _ ?_; clear hK K
                  try simp only [Act.put, List.setIfInBounds_toArray, List.set_cons_zero, List.set_cons_succ]
                  refine wpAny_ready (rs := [8]) (by kernel_rfl) (by simp) ?_
                  refine ready_list rfl (fun K hK => ?_) ?_
                  · refine store_all (cs := chgV zero32 (.slice none 0 0) 1 (strOfNums (zerosB n)) (strOfNums (zerosB m))) 28 (.tmp 7) (.tmp 33) rfl rfl rfl rfl K7.out (chgV_is rfl _ _ _ _) (by rw [chgV_size rfl]; rfl) (chgV_one _ rfl _ _ _) ?_
                    intro w9 hu9
                    have R9 := bx hu9.same
                    have D9 := bx (DD.out.trans (hu9.below hbs))
                    clear hu9
                    show wpList _ _ K [] (Act.put _ none undef) w9
                    refine hK.out _ _ ?_; clear hK K
                    try simp only [Act.put, List.setIfInBounds_toArray, List.set_cons_zero, List.set_cons_succ]
                    refine wpAny_done (by kernel_rfl) ?_ _
                    go_wp2_with fail
                    go_meet
                    case rel => exact ⟨_, rfl, hbs, R9.out, D9.out⟩
                  exact AllReady.nil
                exact AllReady.nil
              exact AllReady.nil
            refine AllReady.cons rfl (fun K hK => ?_) ?_
            · go_simp
              refine name_alloc (K := K _) ?_
              intro w5 h5
              have F5 := below_of_alloc h5
              try replace RA := bx (RA.out.below F5)
              try replace RB := bx (RB.out.below F5)
              have hbs := DD.out.size
              replace DD := bx (DD.out.trans (F5.mono DD.out.size))
              have K7 := bx (blk_of_alloc h5)
              clear F5 h5
              refine hK _ _ ?_; clear hK K
              try simp only [Act.put, List.setIfInBounds_toArray, List.set_cons_zero, List.set_cons_succ]
              refine wpAny_ready (rs := [5]) (by kernel_rfl) (by simp) ?_
              refine AllReady.cons rfl (fun K hK => ?_) ?_
              · have hcv := str_of RB.out m
                go_simp
                clear hcv
                refine hK _ _ ?_; clear hK K
                try simp only [Act.put, List.setIfInBounds_toArray, List.set_cons_zero, List.set_cons_succ]
                refine wpAny_ready (rs := [6]) (by kernel_rfl) (by simp) ?_
                refine ready_list rfl (fun K hK => ?_) ?_
                · refine wpList_build3 rfl 28 [(2, .const (.int .u64 1)), (3, .tmp 29), (4, .tmp 32)] rfl _ rfl _ (chg_built2 _ _) ?_
                  show wpList _ _ K [] (Act.put _ (some 33) _) _
                  refine hK.out _ _ ?_; clear hK K
                  try simp only [Act.put, List.setIfInBounds_toArray, List.set_cons_zero, List.set_cons_succ]
                  refine wpAny_ready (rs := [8]) (by kernel_rfl) (by simp) ?_
                  refine ready_list rfl (fun K hK => ?_) ?_
                  · refine store_all (cs := chgV zero32 (.slice none 0 0) 1 (strOfNums (zerosB n)) (strOfNums (zerosB m))) 28 (.tmp 7) (.tmp 33) rfl rfl rfl rfl K7.out (chgV_is rfl _ _ _ _) (by rw [chgV_size rfl]; rfl) (chgV_one _ rfl _ _ _) ?_
                    intro w9 hu9
                    have R9 := bx hu9.same
                    have D9 := bx (DD.out.trans (hu9.below hbs))
                    clear hu9
                    show wpList _ _ K [] (Act.put _ none undef) w9
                    refine hK.out _ _ ?_; clear hK K
                    try simp only [Act.put, List.setIfInBounds_toArray, List.set_cons_zero, List.set_cons_succ]
                    refine wpAny_done (by kernel_rfl) ?_ _
                    go_wp2_with fail
                    go_meet
                    case rel => exact ⟨_, rfl, hbs, R9.out, D9.out⟩
                  exact AllReady.nil
                exact AllReady.nil
              exact AllReady.nil
            exact AllReady.nil
          refine AllReady.cons rfl (fun K hK => ?_) ?_
          · have hcv := str_of RB.out m
            go_simp
            clear hcv
            refine hK _ _ ?_; clear hK K
            try simp only [Act.put, List.setIfInBounds_toArray, List.set_cons_zero, List.set_cons_succ]
            refine wpAny_ready (rs := [2, 7]) (by kernel_rfl) (by simp) ?_
            refine AllReady.cons rfl (fun K hK => ?_) ?_
            · have hcv := str_of RA.out n
              go_simp
              clear hcv
              refine hK _ _ ?_; clear hK K
              try simp only [Act.put, List.setIfInBounds_toArray, List.set_cons_zero, List.set_cons_succ]
              refine wpAny_ready (rs := [6, 7]) (by kernel_rfl) (by simp) ?_
              refine ready_list rfl (fun K hK => ?_) ?_
              · refine wpList_build3 rfl 28 [(2, .const (.int .u64 1)), (3, .tmp 29), (4, .tmp 32)] rfl _ rfl _ (chg_built2 _ _) ?_
                show wpList _ _ K [] (Act.put _ (some 33) _) _
                refine hK.out _ _ ?_; clear hK K
                try simp only [Act.put, List.setIfInBounds_toArray, List.set_cons_zero, List.set_cons_succ]
                refine wpAny_ready (rs := [7]) (by kernel_rfl) (by simp) ?_
                refine AllReady.cons rfl (fun K hK => ?_) ?_
                · go_simp
                  refine name_alloc (K := K _) ?_
                  intro w5 h5
                  have F5 := below_of_alloc h5
                  try replace RA := bx (RA.out.below F5)
                  try replace RB := bx (RB.out.below F5)
                  have hbs := DD.out.size
                  replace DD := bx (DD.out.trans (F5.mono DD.out.size))
                  have K7 := bx (blk_of_alloc h5)
                  clear F5 h5
                  refine hK _ _ ?_; clear hK K
                  try simp only [Act.put, List.setIfInBounds_toArray, List.set_cons_zero, List.set_cons_succ]
                  refine wpAny_ready (rs := [8]) (by kernel_rfl) (by simp) ?_
                  refine ready_list rfl (fun K hK => ?_) ?_
                  · refine store_all (cs := chgV zero32 (.slice none 0 0) 1 (strOfNums (zerosB n)) (strOfNums (zerosB m))) 28 (.tmp 7) (.tmp 33) rfl rfl rfl rfl K7.out (chgV_is rfl _ _ _ _) (by rw [chgV_size rfl]; rfl) (chgV_one _ rfl _ _ _) ?_
                    intro w9 hu9
                    have R9 := bx hu9.same
                    have D9 := bx (DD.out.trans (hu9.below hbs))
                    clear hu9
                    show wpList _ _ K [] (Act.put _ none undef) w9
                    refine hK.out _ _ ?_; clear hK K
                    try simp only [Act.put, List.setIfInBounds_toArray, List.set_cons_zero, List.set_cons_succ]
                    refine wpAny_done (by kernel_rfl) ?_ _
                    go_wp2_with fail
                    go_meet
                    case rel => exact ⟨_, rfl, hbs, R9.out, D9.out⟩
                  exact AllReady.nil
                exact AllReady.nil
              refine AllReady.cons rfl (fun K hK => ?_) ?_
              · go_simp
                refine name_alloc (K := K _) ?_
                intro w5 h5
                have F5 := below_of_alloc h5
                try replace RA := bx (RA.out.below F5)
                try replace RB := bx (RB.out.below F5)
                have hbs := DD.out.size
                replace DD := bx (DD.out.trans (F5.mono DD.out.size))
                have K7 := bx (blk_of_alloc h5)
                clear F5 h5
                refine hK _ _ ?_; clear hK K
                try simp only [Act.put, List.setIfInBounds_toArray, List.set_cons_zero, List.set_cons_succ]
                refine wpAny_ready (rs := [6]) (by kernel_rfl) (by simp) ?_
                refine ready_list rfl (fun K hK => ?_) ?_
                · refine wpList_build3 rfl 28 [(2, .const (.int .u64 1)), (3, .tmp 29), (4, .tmp 32)] rfl _ rfl _ (chg_built2 _ _) ?_
                  show wpList _ _ K [] (Act.put _ (some 33) _) _
                  refine hK.out _ _ ?_; clear hK K
                  try simp only [Act.put, List.setIfInBounds_toArray, List.set_cons_zero, List.set_cons_succ]
                  refine wpAny_ready (rs := [8]) (by kernel_rfl) (by simp) ?_
                  refine ready_list rfl (fun K hK => ?_) ?_
                  · refine store_all (cs := chgV zero32 (.slice none 0 0) 1 (strOfNums (zerosB n)) (strOfNums (zerosB m))) 28 (.tmp 7) (.tmp 33) rfl rfl rfl rfl K7.out (chgV_is rfl _ _ _ _) (by rw [chgV_size rfl]; rfl) (chgV_one _ rfl _ _ _) ?_
                    intro w9 hu9
                    have R9 := bx hu9.same
                    have D9 := bx (DD.out.trans (hu9.below hbs))
                    clear hu9
                    show wpList _ _ K [] (Act.put _ none undef) w9
                    refine hK.out _ _ ?_; clear hK K
                    try simp only [Act.put, List.setIfInBounds_toArray, List.set_cons_zero, List.set_cons_succ]
                    refine wpAny_done (by kernel_rfl) ?_ _
                    go_wp2_with fail
                    go_meet
                    case rel => exact ⟨_, rfl, hbs, R9.out, D9.out⟩
                  exact AllReady.nil
                exact AllReady.nil
              exact AllReady.nil
            refine AllReady.cons rfl (fun K hK => ?_) ?_
            · go_simp
              refine name_alloc (K := K _) ?_
              intro w5 h5
              have F5 := below_of_alloc h5
              try replace RA := bx (RA.out.below F5)
              try replace RB := bx (RB.out.below F5)
              have hbs := DD.out.size
              replace DD := bx (DD.out.trans (F5.mono DD.out.size))
              have K7 := bx (blk_of_alloc h5)
              clear F5 h5
              refine hK _ _ ?_; clear hK K
              try simp only [Act.put, List.setIfInBounds_toArray, List.set_cons_zero, List.set_cons_succ]
              refine wpAny_ready (rs := [2]) (by kernel_rfl) (by simp) ?_
              refine AllReady.cons rfl (fun K hK => ?_) ?_
              · have hcv := str_of RA.out n
                go_simp
                clear hcv
                refine hK _ _ ?_; clear hK K
                try simp only [Act.put, List.setIfInBounds_toArray, List.set_cons_zero, List.set_cons_succ]
                refine wpAny_ready (rs := [6]) (by kernel_rfl) (by simp) ?_
                refine ready_list rfl (fun K hK => ?_) ?_
                · refine wpList_build3 rfl 28 [(2, .const (.int .u64 1)), (3, .tmp 29), (4, .tmp 32)] rfl _ rfl _ (chg_built2 _ _) ?_
                  show wpList _ _ K [] (Act.put _ (some 33) _) _
                  refine hK.out _ _ ?_; clear hK K
                  try simp only [Act.put, List.setIfInBounds_toArray, List.set_cons_zero, List.set_cons_succ]
                  refine wpAny_ready (rs := [8]) (by kernel_rfl) (by simp) ?_
                  refine ready_list rfl (fun K hK => ?_) ?_
                  · refine store_all (cs := chgV zero32 (.slice none 0 0) 1 (strOfNums (zerosB n)) (strOfNums (zerosB m))) 28 (.tmp 7) (.tmp 33) rfl rfl rfl rfl K7.out (chgV_is rfl _ _ _ _) (by rw [chgV_size rfl]; rfl) (chgV_one _ rfl _ _ _) ?_
                    intro w9 hu9
                    have R9 := bx hu9.same
                    have D9 := bx (DD.out.trans (hu9.below hbs))
                    clear hu9
                    show wpList _ _ K [] (Act.put _ none undef) w9
                    refine hK.out _ _ ?_; clear hK K
                    try simp only [Act.put, List.setIfInBounds_toArray, List.set_cons_zero, List.set_cons_succ]
                    refine wpAny_done (by kernel_rfl) ?_ _
                    go_wp2_with fail
                    go_meet
                    case rel => exact ⟨_, rfl, hbs, R9.out, D9.out⟩
                  exact AllReady.nil
                exact AllReady.nil
              exact AllReady.nil
            exact AllReady.nil
          refine AllReady.cons rfl (fun K hK => ?_) ?_
          · go_simp
            refine name_alloc (K := K _) ?_
            intro w5 h5
            have F5 := below_of_alloc h5
            try replace RA := bx (RA.out.below F5)
            try replace RB := bx (RB.out.below F5)
            have hbs := DD.out.size
            replace DD := bx (DD.out.trans (F5.mono DD.out.size))
            have K7 := bx (blk_of_alloc h5)
            clear F5 h5
            refine hK _ _ ?_; clear hK K
            try simp only [Act.put, List.setIfInBounds_toArray, List.set_cons_zero, List.set_cons_succ]
            refine wpAny_ready (rs := [2, 5]) (by kernel_rfl) (by simp) ?_
            refine AllReady.cons rfl (fun K hK => ?_) ?_
            · have hcv := str_of RA.out n
              go_simp
              clear hcv
              refine hK _ _ ?_; clear hK K
              try simp only [Act.put, List.setIfInBounds_toArray, List.set_cons_zero, List.set_cons_succ]
              refine wpAny_ready (rs := [5]) (by kernel_rfl) (by simp) ?_
              refine AllReady.cons rfl (fun K hK => ?_) ?_
              · have hcv := str_of RB.out m
                go_simp
                clear hcv
                refine hK _ _ ?_; clear hK K
                try simp only [Act.put, List.setIfInBounds_toArray, List.set_cons_zero, List.set_cons_succ]
                refine wpAny_ready (rs := [6]) (by kernel_rfl) (by simp) ?_
                refine ready_list rfl (fun K hK => ?_) ?_
                · refine wpList_build3 rfl 28 [(2, .const (.int .u64 1)), (3, .tmp 29), (4, .tmp 32)] rfl _ rfl _ (chg_built2 _ _) ?_
                  show wpList _ _ K [] (Act.put _ (some 33) _) _
                  refine hK.out _ _ ?_; clear hK K
                  try simp only [Act.put, List.setIfInBounds_toArray, List.set_cons_zero, List.set_cons_succ]
                  refine wpAny_ready (rs := [8]) (by kernel_rfl) (by simp) ?_
                  refine ready_list rfl (fun K hK => ?_) ?_
                  · refine store_all (cs := chgV zero32 (.slice none 0 0) 1 (strOfNums (zerosB n)) (strOfNums (zerosB m))) 28 (.tmp 7) (.tmp 33) rfl rfl rfl rfl K7.out (chgV_is rfl _ _ _ _) (by rw [chgV_size rfl]; rfl) (chgV_one _ rfl _ _ _) ?_
                    intro w9 hu9
                    have R9 := bx hu9.same
                    have D9 := bx (DD.out.trans (hu9.below hbs))
                    clear hu9
                    show wpList _ _ K [] (Act.put _ none undef) w9
                    refine hK.out _ _ ?_; clear hK K
                    try simp only [Act.put, List.setIfInBounds_toArray, List.set_cons_zero, List.set_cons_succ]
                    refine wpAny_done (by kernel_rfl) ?_ _
                    go_wp2_with fail
                    go_meet
                    case rel => exact ⟨_, rfl, hbs, R9.out, D9.out⟩
                  exact AllReady.nil
                exact AllReady.nil
              exact AllReady.nil
            refine AllReady.cons rfl (fun K hK => ?_) ?_
            · have hcv := str_of RB.out m
              go_simp
              clear hcv
              refine hK _ _ ?_; clear hK K
              try simp only [Act.put, List.setIfInBounds_toArray, List.set_cons_zero, List.set_cons_succ]
              refine wpAny_ready (rs := [2]) (by kernel_rfl) (by simp) ?_
              refine AllReady.cons rfl (fun K hK => ?_) ?_
              · have hcv := str_of RA.out n
                go_simp
                clear hcv
                refine hK _ _ ?_; clear hK K
                try simp only [Act.put, List.setIfInBounds_toArray, List.set_cons_zero, List.set_cons_succ]
                refine wpAny_ready (rs := [6]) (by kernel_rfl) (by simp) ?_
                refine ready_list rfl (fun K hK => ?_) ?_
                · refine wpList_build3 rfl 28 [(2, .const (.int .u64 1)), (3, .tmp 29), (4, .tmp 32)] rfl _ rfl _ (chg_built2 _ _) ?_
                  show wpList _ _ K [] (Act.put _ (some 33) _) _
                  refine hK.out _ _ ?_; clear hK K
                  try simp only [Act.put, List.setIfInBounds_toArray, List.set_cons_zero, List.set_cons_succ]
                  refine wpAny_ready (rs := [8]) (by kernel_rfl) (by simp) ?_
                  refine ready_list rfl (fun K hK => ?_) ?_
                  · refine store_all (cs := chgV zero32 (.slice none 0 0) 1 (strOfNums (zerosB n)) (strOfNums (zerosB m))) 28 (.tmp 7) (.tmp 33) rfl rfl rfl rfl K7.out (chgV_is rfl _ _ _ _) (by rw [chgV_size rfl]; rfl) (chgV_one _ rfl _ _ _) ?_
                    intro w9 hu9
                    have R9 := bx hu9.same
                    have D9 := bx (DD.out.trans (hu9.below hbs))
                    clear hu9
                    show wpList _ _ K [] (Act.put _ none undef) w9
                    refine hK.out _ _ ?_; clear hK K
                    try simp only [Act.put, List.setIfInBounds_toArray, List.set_cons_zero, List.set_cons_succ]
                    refine wpAny_done (by kernel_rfl) ?_ _
                    go_wp2_with fail
                    go_meet
                    case rel => exact ⟨_, rfl, hbs, R9.out, D9.out⟩
                  exact AllReady.nil
                exact AllReady.nil
              exact AllReady.nil
            exact AllReady.nil
          exact AllReady.nil
        refine AllReady.cons rfl (fun K hK => ?_) ?_
        · go_simp
          refine name_alloc (K := K _) ?_
          intro w5 h5
          have F5 := below_of_alloc h5
          try replace RA := bx (RA.out.below F5)
          try replace RB := bx (RB.out.below F5)
          have hbs := DD.out.size
          replace DD := bx (DD.out.trans (F5.mono DD.out.size))
          have K7 := bx (blk_of_alloc h5)
          clear F5 h5
          refine hK _ _ ?_; clear hK K
          try simp only [Act.put, List.setIfInBounds_toArray, List.set_cons_zero, List.set_cons_succ]
          refine wpAny_ready (rs := [2, 4]) (by kernel_rfl) (by simp) ?_
          refine AllReady.cons rfl (fun K hK => ?_) ?_
          · have hcv := str_of RA.out n
            go_simp
            clear hcv
            refine hK _ _ ?_; clear hK K
            try simp only [Act.put, List.setIfInBounds_toArray, List.set_cons_zero, List.set_cons_succ]
            refine wpAny_ready (rs := [4]) (by kernel_rfl) (by simp) ?_
            refine AllReady.cons rfl (fun K hK => ?_) ?_
            · go_simp
              refine name_alloc (K := K _) ?_
              intro w5 h5
              have F5 := below_of_alloc h5
              try replace RA := bx (RA.out.below F5)
              try replace K7 := bx ((F5.block _ (blk_lt K7.out)).trans K7.out)
              replace DD := bx (DD.out.trans (F5.mono DD.out.size))
              have RB := bx (rd_of_zeros h5)
              clear F5 h5
              refine hK _ _ ?_; clear hK K
              try simp only [Act.put, List.setIfInBounds_toArray, List.set_cons_zero, List.set_cons_succ]
              refine wpAny_ready (rs := [5]) (by kernel_rfl) (by simp) ?_
              refine AllReady.cons rfl (fun K hK => ?_) ?_
              · have hcv := str_of RB.out m
                go_simp
                clear hcv
                refine hK _ _ ?_; clear hK K
                try simp only [Act.put, List.setIfInBounds_toArray, List.set_cons_zero, List.set_cons_succ]
                refine wpAny_ready (rs := [6]) (by kernel_rfl) (by simp) ?_
                refine ready_list rfl (fun K hK => ?_) ?_
                · refine wpList_build3 rfl 28 [(2, .const (.int .u64 1)), (3, .tmp 29), (4, .tmp 32)] rfl _ rfl _ (chg_built2 _ _) ?_
                  show wpList _ _ K [] (Act.put _ (some 33) _) _
                  refine hK.out _ _ ?_; clear hK K
                  try simp only [Act.put, List.setIfInBounds_toArray, List.set_cons_zero, List.set_cons_succ]
                  refine wpAny_ready (rs := [8]) (by kernel_rfl) (by simp) ?_
                  refine ready_list rfl (fun K hK => ?_) ?_
                  · refine store_all (cs := chgV zero32 (.slice none 0 0) 1 (strOfNums (zerosB n)) (strOfNums (zerosB m))) 28 (.tmp 7) (.tmp 33) rfl rfl rfl rfl K7.out (chgV_is rfl _ _ _ _) (by rw [chgV_size rfl]; rfl) (chgV_one _ rfl _ _ _) ?_
                    intro w9 hu9
                    have R9 := bx hu9.same
                    have D9 := bx (DD.out.trans (hu9.below hbs))
                    clear hu9
                    show wpList _ _ K [] (Act.put _ none undef) w9
                    refine hK.out _ _ ?_; clear hK K
                    try simp only [Act.put, List.setIfInBounds_toArray, List.set_cons_zero, List.set_cons_succ]
                    refine wpAny_done (by kernel_rfl) ?_ _
                    go_wp2_with fail
                    go_meet
                    case rel => exact ⟨_, rfl, hbs, R9.out, D9.out⟩
                  exact AllReady.nil
                exact AllReady.nil
              exact AllReady.nil
            exact AllReady.nil
          refine AllReady.cons rfl (fun K hK => ?_) ?_
          · go_simp
            refine name_alloc (K := K _) ?_
            intro w5 h5
            have F5 := below_of_alloc h5
            try replace RA := bx (RA.out.below F5)
            try replace K7 := bx ((F5.block _ (blk_lt K7.out)).trans K7.out)
            replace DD := bx (DD.out.trans (F5.mono DD.out.size))
            have RB := bx (rd_of_zeros h5)
            clear F5 h5
            refine hK _ _ ?_; clear hK K
            try simp only [Act.put, List.setIfInBounds_toArray, List.set_cons_zero, List.set_cons_succ]
            refine wpAny_ready (rs := [2, 5]) (by kernel_rfl) (by simp) ?_
            refine AllReady.cons rfl (fun K hK => ?_) ?_
            · have hcv := str_of RA.out n
              go_simp
              clear hcv
              refine hK _ _ ?_; clear hK K
              try simp only [Act.put, List.setIfInBounds_toArray, List.set_cons_zero, List.set_cons_succ]
              refine wpAny_ready (rs := [5]) (by kernel_rfl) (by simp) ?_
              refine AllReady.cons rfl (fun K hK => ?_) ?_
              · have hcv := str_of RB.out m
                go_simp
                clear hcv
                refine hK _ _ ?_; clear hK K
                try simp only [Act.put, List.setIfInBounds_toArray, List.set_cons_zero, List.set_cons_succ]
                refine wpAny_ready (rs := [6]) (by kernel_rfl) (by simp) ?_
                refine ready_list rfl (fun K hK => ?_) ?_
                · refine wpList_build3 rfl 28 [(2, .const (.int .u64 1)), (3, .tmp 29), (4, .tmp 32)] rfl _ rfl _ (chg_built2 _ _) ?_
                  show wpList _ _ K [] (Act.put _ (some 33) _) _
                  refine hK.out _ _ ?_; clear hK K
                  try simp only [Act.put, List.setIfInBounds_toArray, List.set_cons_zero, List.set_cons_succ]
                  refine wpAny_ready (rs := [8]) (by kernel_rfl) (by simp) ?_
                  refine ready_list rfl (fun K hK => ?_) ?_
                  · refine store_all (cs := chgV zero32 (.slice none 0 0) 1 (strOfNums (zerosB n)) (strOfNums (zerosB m))) 28 (.tmp 7) (.tmp 33) rfl rfl rfl rfl K7.out (chgV_is rfl _ _ _ _) (by rw [chgV_size rfl]; rfl) (chgV_one _ rfl _ _ _) ?_
                    intro w9 hu9
                    have R9 := bx hu9.same
                    have D9 := bx (DD.out.trans (hu9.below hbs))
                    clear hu9
                    show wpList _ _ K [] (Act.put _ none undef) w9
                    refine hK.out _ _ ?_; clear hK K
                    try simp only [Act.put, List.setIfInBounds_toArray, List.set_cons_zero, List.set_cons_succ]
                    refine wpAny_done (by kernel_rfl) ?_ _
                    go_wp2_with fail
                    go_meet
                    case rel => exact ⟨_, rfl, hbs, R9.out, D9.out⟩
                  exact AllReady.nil
                exact AllReady.nil
              exact AllReady.nil
            refine AllReady.cons rfl (fun K hK => ?_) ?_
            · have hcv := str_of RB.out m
              go_simp
              clear hcv
              refine hK _ _ ?_; clear hK K
              try simp only [Act.put, List.setIfInBounds_toArray, List.set_cons_zero, List.set_cons_succ]
              refine wpAny_ready (rs := [2]) (by kernel_rfl) (by simp) ?_
              refine AllReady.cons rfl (fun K hK => ?_) ?_
              · have hcv := str_of RA.out n
                go_simp
                clear hcv
                refine hK _ _ ?_; clear hK K
                try simp only [Act.put, List.setIfInBounds_toArray, List.set_cons_zero, List.set_cons_succ]
                refine wpAny_ready (rs := [6]) (by kernel_rfl) (by simp) ?_
                refine ready_list rfl (fun K hK => ?_) ?_
                · refine wpList_build3 rfl 28 [(2, .const (.int .u64 1)), (3, .tmp 29), (4, .tmp 32)] rfl _ rfl _ (chg_built2 _ _) ?_
                  show wpList _ _ K [] (Act.put _ (some 33) _) _
                  refine hK.out _ _ ?_; clear hK K
                  try simp only [Act.put, List.setIfInBounds_toArray, List.set_cons_zero, List.set_cons_succ]
                  refine wpAny_ready (rs := [8]) (by kernel_rfl) (by simp) ?_
                  refine ready_list rfl (fun K hK => ?_) ?_
                  · refine store_all (cs := chgV zero32 (.slice none 0 0) 1 (strOfNums (zerosB n)) (strOfNums (zerosB m))) 28 (.tmp 7) (.tmp 33) rfl rfl rfl rfl K7.out (chgV_is rfl _ _ _ _) (by rw [chgV_size rfl]; rfl) (chgV_one _ rfl _ _ _) ?_
                    intro w9 hu9
                    have R9 := bx hu9.same
                    have D9 := bx (DD.out.trans (hu9.below hbs))
                    clear hu9
                    show wpList _ _ K [] (Act.put _ none undef) w9
                    refine hK.out _ _ ?_; clear hK K
                    try simp only [Act.put, List.setIfInBounds_toArray, List.set_cons_zero, List.set_cons_succ]
                    refine wpAny_done (by kernel_rfl) ?_ _
                    go_wp2_with fail
                    go_meet
                    case rel => exact ⟨_, rfl, hbs, R9.out, D9.out⟩
                  exact AllReady.nil
                exact AllReady.nil
              exact AllReady.nil
            exact AllReady.nil
          exact AllReady.nil
        exact AllReady.nil
      refine AllReady.cons rfl (fun K hK => ?_) ?_
      · go_simp
        refine name_alloc (K := K _) ?_
        intro w5 h5
        have F5 := below_of_alloc h5
        try replace RA := bx (RA.out.below F5)
        try replace K7 := bx ((F5.block _ (blk_lt K7.out)).trans K7.out)
        replace DD := bx (DD.out.trans (F5.mono DD.out.size))
        have RB := bx (rd_of_zeros h5)
        clear F5 h5
        refine hK _ _ ?_; clear hK K
        try simp only [Act.put, List.setIfInBounds_toArray, List.set_cons_zero, List.set_cons_succ]
        refine wpAny_ready (rs := [1, 5, 7]) (by kernel_rfl) (by simp) ?_
        refine AllReady.cons rfl (fun K hK => ?_) ?_
        · go_simp
          refine name_alloc (K := K _) ?_
          intro w5 h5
          have F5 := below_of_alloc h5
          try replace RB := bx (RB.out.below F5)
          try replace K7 := bx ((F5.block _ (blk_lt K7.out)).trans K7.out)
          replace DD := bx (DD.out.trans (F5.mono DD.out.size))
          have RA := bx (rd_of_zeros h5)
          clear F5 h5
          refine hK _ _ ?_; clear hK K
          try simp only [Act.put, List.setIfInBounds_toArray, List.set_cons_zero, List.set_cons_succ]
          refine wpAny_ready (rs := [2, 5, 7]) (by kernel_rfl) (by simp) ?_
          refine AllReady.cons rfl (fun K hK => ?_) ?_
          · have hcv := str_of RA.out n
            go_simp
            clear hcv
            refine hK _ _ ?_; clear hK K
            try simp only [Act.put, List.setIfInBounds_toArray, List.set_cons_zero, List.set_cons_succ]
            refine wpAny_ready (rs := [5, 7]) (by kernel_rfl) (by simp) ?_
            refine AllReady.cons rfl (fun K hK => ?_) ?_
            · have hcv := str_of RB.out m
              go_simp
              clear hcv
              refine hK _ _ ?_; clear hK K
              try simp only [Act.put, List.setIfInBounds_toArray, List.set_cons_zero, List.set_cons_succ]
              refine wpAny_ready (rs := [6, 7]) (by kernel_rfl) (by simp) ?_
              refine ready_list rfl (fun K hK => ?_) ?_
              · refine wpList_build3 rfl 28 [(2, .const (.int .u64 1)), (3, .tmp 29), (4, .tmp 32)] rfl _ rfl _ (chg_built2 _ _) ?_
                show wpList _ _ K [] (Act.put _ (some 33) _) _
                refine hK.out _ _ ?_; clear hK K
                try simp only [Act.put, List.setIfInBounds_toArray, List.set_cons_zero, List.set_cons_succ]
                refine wpAny_ready (rs := [7]) (by kernel_rfl) (by simp) ?_
                refine AllReady.cons rfl (fun K hK => ?_) ?_
                · go_simp
                  refine name_alloc (K := K _) ?_
                  intro w5 h5
                  have F5 := below_of_alloc h5
                  try replace RA := bx (RA.out.below F5)
                  try replace RB := bx (RB.out.below F5)
                  have hbs := DD.out.size
                  replace DD := bx (DD.out.trans (F5.mono DD.out.size))
                  have K7 := bx (blk_of_alloc h5)
                  clear F5 h5
                  refine hK _ _ ?_; clear hK K
                  try simp only [Act.put, List.setIfInBounds_toArray, List.set_cons_zero, List.set_cons_succ]
                  refine wpAny_ready (rs := [8]) (by kernel_rfl) (by simp) ?_
                  refine ready_list rfl (fun K hK => ?_) ?_
                  · refine store_all (cs := chgV zero32 (.slice none 0 0) 1 (strOfNums (zerosB n)) (strOfNums (zerosB m))) 28 (.tmp 7) (.tmp 33) rfl rfl rfl rfl K7.out (chgV_is rfl _ _ _ _) (by rw [chgV_size rfl]; rfl) (chgV_one _ rfl _ _ _) ?_
                    intro w9 hu9
                    have R9 := bx hu9.same
                    have D9 := bx (DD.out.trans (hu9.below hbs))
                    clear hu9
                    show wpList _ _ K [] (Act.put _ none undef) w9
                    refine hK.out _ _ ?_; clear hK K
                    try simp only [Act.put, List.setIfInBounds_toArray, List.set_cons_zero, List.set_cons_succ]
                    refine wpAny_done (by kernel_rfl) ?_ _
                    go_wp2_with fail
                    go_meet
                    case rel => exact ⟨_, rfl, hbs, R9.out, D9.out⟩
                  exact AllReady.nil
                exact AllReady.nil
              refine AllReady.cons rfl (fun K hK => ?_) ?_
              · go_simp
                refine name_alloc (K := K _) ?_
                intro w5 h5
                have F5 := below_of_alloc h5
                try replace RA := bx (RA.out.below F5)
                try replace RB := bx (RB.out.below F5)
                have hbs := DD.out.size
                replace DD := bx (DD.out.trans (F5.mono DD.out.size))
                have K7 := bx (blk_of_alloc h5)
                clear F5 h5
                refine hK _ _ ?_; clear hK K
                try simp only [Act.put, List.setIfInBounds_toArray, List.set_cons_zero, List.set_cons_succ]
                refine wpAny_ready (rs := [6]) (by kernel_rfl) (by simp) ?_
                refine ready_list rfl (fun K hK => ?_) ?_
                · refine wpList_build3 rfl 28 [(2, .const (.int .u64 1)), (3, .tmp 29), (4, .tmp 32)] rfl _ rfl _ (chg_built2 _ _) ?_
                  show wpList _ _ K [] (Act.put _ (some 33) _) _
                  refine hK.out _ _ ?_; clear hK K
                  try simp only [Act.put, List.setIfInBounds_toArray, List.set_cons_zero, List.set_cons_succ]
                  refine wpAny_ready (rs := [8]) (by kernel_rfl) (by simp) ?_
                  refine ready_list rfl (fun K hK => ?_) ?_
                  · refine store_all (cs := chgV zero32 (.slice none 0 0) 1 (strOfNums (zerosB n)) (strOfNums (zerosB m))) 28 (.tmp 7) (.tmp 33) rfl rfl rfl rfl K7.out (chgV_is rfl _ _ _ _) (by rw [chgV_size rfl]; rfl) (chgV_one _ rfl _ _ _) ?_
                    intro w9 hu9
                    have R9 := bx hu9.same
                    have D9 := bx (DD.out.trans (hu9.below hbs))
                    clear hu9
                    show wpList _ _ K [] (Act.put _ none undef) w9
                    refine hK.out _ _ ?_; clear hK K
                    try simp only [Act.put, List.setIfInBounds_toArray, List.set_cons_zero, List.set_cons_succ]
                    refine wpAny_done (by kernel_rfl) ?_ _
                    go_wp2_with fail
                    go_meet
                    case rel => exact ⟨_, rfl, hbs, R9.out, D9.out⟩
                  exact AllReady.nil
                exact AllReady.nil
              exact AllReady.nil
            refine AllReady.cons rfl (fun K hK => ?_) ?_
            · go_simp
              refine name_alloc (K := K _) ?_
              intro w5 h5
              have F5 := below_of_alloc h5
              try replace RA := bx (RA.out.below F5)
              try replace RB := bx (RB.out.below F5)
              have hbs := DD.out.size
              replace DD := bx (DD.out.trans (F5.mono DD.out.size))
              have K7 := bx (blk_of_alloc h5)
              clear F5 h5
              refine hK _ _ ?_; clear hK K
              try simp only [Act.put, List.setIfInBounds_toArray, List.set_cons_zero, List.set_cons_succ]
              refine wpAny_ready (rs := [5]) (by kernel_rfl) (by simp) ?_
              refine AllReady.cons rfl (fun K hK => ?_) ?_
              · have hcv := str_of RB.out m
                go_simp
                clear hcv
                refine hK _ _ ?_; clear hK K
                try simp only [Act.put, List.setIfInBounds_toArray, List.set_cons_zero, List.set_cons_succ]
                refine wpAny_ready (rs := [6]) (by kernel_rfl) (by simp) ?_
                refine ready_list rfl (fun K hK => ?_) ?_
                · refine wpList_build3 rfl 28 [(2, .const (.int .u64 1)), (3, .tmp 29), (4, .tmp 32)] rfl _ rfl _ (chg_built2 _ _) ?_
                  show wpList _ _ K [] (Act.put _ (some 33) _) _
                  refine hK.out _ _ ?_; clear hK K
                  try simp only [Act.put, List.setIfInBounds_toArray, List.set_cons_zero, List.set_cons_succ]
                  refine wpAny_ready (rs := [8]) (by kernel_rfl) (by simp) ?_
                  refine ready_list rfl (fun K hK => ?_) ?_
                  · refine store_all (cs := chgV zero32 (.slice none 0 0) 1 (strOfNums (zerosB n)) (strOfNums (zerosB m))) 28 (.tmp 7) (.tmp 33) rfl rfl rfl rfl K7.out (chgV_is rfl _ _ _ _) (by rw [chgV_size rfl]; rfl) (chgV_one _ rfl _ _ _) ?_
                    intro w9 hu9
                    have R9 := bx hu9.same
                    have D9 := bx (DD.out.trans (hu9.below hbs))
                    clear hu9
                    show wpList _ _ K [] (Act.put _ none undef) w9
                    refine hK.out _ _ ?_; clear hK K
                    try simp only [Act.put, List.setIfInBounds_toArray, List.set_cons_zero, List.set_cons_succ]
                    refine wpAny_done (by kernel_rfl) ?_ _
                    go_wp2_with fail
                    go_meet
                    case rel => exact ⟨_, rfl, hbs, R9.out, D9.out⟩
                  exact AllReady.nil
                exact AllReady.nil
              exact AllReady.nil
            exact AllReady.nil
          refine AllReady.cons rfl (fun K hK => ?_) ?_
          · have hcv := str_of RB.out m
            go_simp
            clear hcv
            refine hK _ _ ?_; clear hK K
            try simp only [Act.put, List.setIfInBounds_toArray, List.set_cons_zero, List.set_cons_succ]
            refine wpAny_ready (rs := [2, 7]) (by kernel_rfl) (by simp) ?_
            refine AllReady.cons rfl (fun K hK => ?_) ?_
            · have hcv := str_of RA.out n
              go_simp
              clear hcv
              refine hK _ _ ?_; clear hK K
              try simp only [Act.put, List.setIfInBounds_toArray, List.set_cons_zero, List.set_cons_succ]
              refine wpAny_ready (rs := [6, 7]) (by kernel_rfl) (by simp) ?_
              refine ready_list rfl (fun K hK => ?_) ?_
              · refine wpList_build3 rfl 28 [(2, .const (.int .u64 1)), (3, .tmp 29), (4, .tmp 32)] rfl _ rfl _ (chg_built2 _ _) ?_
                show wpList _ _ K [] (Act.put _ (some 33) _) _
                refine hK.out _ _ ?_; clear hK K
                try simp only [Act.put, List.setIfInBounds_toArray, List.set_cons_zero, List.set_cons_succ]
                refine wpAny_ready (rs := [7]) (by kernel_rfl) (by simp) ?_
                refine AllReady.cons rfl (fun K hK => ?_) ?_
                · go_simp
                  refine name_alloc (K := K _) ?_
                  intro w5 h5
                  have F5 := below_of_alloc h5
                  try replace RA := bx (RA.out.below F5)
                  try replace RB := bx (RB.out.below F5)
                  have hbs := DD.out.size
                  replace DD := bx (DD.out.trans (F5.mono DD.out.size))
                  have K7 := bx (blk_of_alloc h5)
                  clear F5 h5
                  refine hK _ _ ?_; clear hK K
                  try simp only [Act.put, List.setIfInBounds_toArray, List.set_cons_zero, List.set_cons_succ]
                  refine wpAny_ready (rs := [8]) (by kernel_rfl) (by simp) ?_
                  refine ready_list rfl (fun K hK => ?_) ?_
                  · refine store_all (cs := chgV zero32 (.slice none 0 0) 1 (strOfNums (zerosB n)) (strOfNums (zerosB m))) 28 (.tmp 7) (.tmp 33) rfl rfl rfl rfl K7.out (chgV_is rfl _ _ _ _) (by rw [chgV_size rfl]; rfl) (chgV_one _ rfl _ _ _) ?_
                    intro w9 hu9
                    have R9 := bx hu9.same
                    have D9 := bx (DD.out.trans (hu9.below hbs))
                    clear hu9
                    show wpList _ _ K [] (Act.put _ none undef) w9
                    refine hK.out _ _ ?_; clear hK K
                    try simp only [Act.put, List.setIfInBounds_toArray, List.set_cons_zero, List.set_cons_succ]
                    refine wpAny_done (by kernel_rfl) ?_ _
                    go_wp2_with fail
                    go_meet
                    case rel => exact ⟨_, rfl, hbs, R9.out, D9.out⟩
                  exact AllReady.nil
                exact AllReady.nil
              refine AllReady.cons rfl (fun K hK => ?_) ?_
              · go_simp
                refine name_alloc (K := K _) ?_
                intro w5 h5
                have F5 := below_of_alloc h5
                try replace RA := bx (RA.out.below F5)
                try replace RB := bx (RB.out.below F5)
                have hbs := DD.out.size
                replace DD := bx (DD.out.trans (F5.mono DD.out.size))
                have K7 := bx (blk_of_alloc h5)
                clear F5 h5
                refine hK _ _ ?_; clear hK K
                try simp only [Act.put, List.setIfInBounds_toArray, List.set_cons_zero, List.set_cons_succ]
                refine wpAny_ready (rs := [6]) (by kernel_rfl) (by simp) ?_
                refine ready_list rfl (fun K hK => ?_) ?_
                · refine wpList_build3 rfl 28 [(2, .const (.int .u64 1)), (3, .tmp 29), (4, .tmp 32)] rfl _ rfl _ (chg_built2 _ _) ?_
                  show wpList _ _ K [] (Act.put _ (some 33) _) _
                  refine hK.out _ _ ?_; clear hK K
                  try simp only [Act.put, List.setIfInBounds_toArray, List.set_cons_zero, List.set_cons_succ]
                  refine wpAny_ready (rs := [8]) (by kernel_rfl) (by simp) ?_
                  refine ready_list rfl (fun K hK => ?_) ?_
                  · refine store_all (cs := chgV zero32 (.slice none 0 0) 1 (strOfNums (zerosB n)) (strOfNums (zerosB m))) 28 (.tmp 7) (.tmp 33) rfl rfl rfl rfl K7.out (chgV_is rfl _ _ _ _) (by rw [chgV_size rfl]; rfl) (chgV_one _ rfl _ _ _) ?_
                    intro w9 hu9
                    have R9 := bx hu9.same
                    have D9 := bx (DD.out.trans (hu9.below hbs))
                    clear hu9
                    show wpList _ _ K [] (Act.put _ none undef) w9
                    refine hK.out _ _ ?_; clear hK K
                    try simp only [Act.put, List.setIfInBounds_toArray, List.set_cons_zero, List.set_cons_succ]
                    refine wpAny_done (by kernel_rfl) ?_ _
                    go_wp2_with fail
                    go_meet
                    case rel => exact ⟨_, rfl, hbs, R9.out, D9.out⟩
                  exact AllReady.nil
                exact AllReady.nil
              exact AllReady.nil
            refine AllReady.cons rfl (fun K hK => ?_) ?_
            · go_simp
              refine name_alloc (K := K _) ?_
              intro w5 h5
              have F5 := below_of_alloc h5
              try replace RA := bx (RA.out.below F5)
              try replace RB := bx (RB.out.below F5)
              have hbs := DD.out.size
              replace DD := bx (DD.out.trans (F5.mono DD.out.size))
              have K7 := bx (blk_of_alloc h5)
              clear F5 h5
              refine hK _ _ ?_; clear hK K
              try simp only [Act.put, List.setIfInBounds_toArray, List.set_cons_zero, List.set_cons_succ]
              refine wpAny_ready (rs := [2]) (by kernel_rfl) (by simp) ?_
              refine AllReady.cons rfl (fun K hK => ?_) ?_
              · have hcv := str_of RA.out n
                go_simp
                clear hcv
                refine hK _ _ ?_; clear hK K
                try simp only [Act.put, List.setIfInBounds_toArray, List.set_cons_zero, List.set_cons_succ]
                refine wpAny_ready (rs := [6]) (by kernel_rfl) (by simp) ?_
                refine ready_list rfl (fun K hK => ?_) ?_
                · refine wpList_build3 rfl 28 [(2, .const (.int .u64 1)), (3, .tmp 29), (4, .tmp 32)] rfl _ rfl _ (chg_built2 _ _) ?_
                  show wpList _ _ K [] (Act.put _ (some 33) _) _
                  refine hK.out _ _ ?_; clear hK K
                  try simp only [Act.put, List.setIfInBounds_toArray, List.set_cons_zero, List.set_cons_succ]
                  refine wpAny_ready (rs := [8]) (by kernel_rfl) (by simp) ?_
                  refine ready_list rfl (fun K hK => ?_) ?_
                  · refine store_all (cs := chgV zero32 (.slice none 0 0) 1 (strOfNums (zerosB n)) (strOfNums (zerosB m))) 28 (.tmp 7) (.tmp 33) rfl rfl rfl rfl K7.out (chgV_is rfl _ _ _ _) (by rw [chgV_size rfl]; rfl) (chgV_one _ rfl _ _ _) ?_
                    intro w9 hu9
                    have R9 := bx hu9.same
                    have D9 := bx (DD.out.trans (hu9.below hbs))
                    clear hu9
                    show wpList _ _ K [] (Act.put _ none undef) w9
                    refine hK.out _ _ ?_; clear hK K
                    try simp only [Act.put, List.setIfInBounds_toArray, List.set_cons_zero, List.set_cons_succ]
                    refine wpAny_done (by kernel_rfl) ?_ _
                    go_wp2_with fail
                    go_meet
                    case rel => exact ⟨_, rfl, hbs, R9.out, D9.out⟩
                  exact AllReady.nil
                exact AllReady.nil
              exact AllReady.nil
            exact AllReady.nil
          refine AllReady.cons rfl (fun K hK => ?_) ?_
          · go_simp
            refine name_alloc (K := K _) ?_
            intro w5 h5
            have F5 := below_of_alloc h5
            try replace RA := bx (RA.out.below F5)
            try replace RB := bx (RB.out.below F5)
            have hbs := DD.out.size
            replace DD := bx (DD.out.trans (F5.mono DD.out.size))
            have K7 := bx (blk_of_alloc h5)
            clear F5 h5
            refine hK _ _ ?_; clear hK K
            try simp only [Act.put, List.setIfInBounds_toArray, List.set_cons_zero, List.set_cons_succ]
            refine wpAny_ready (rs := [2, 5]) (by kernel_rfl) (by simp) ?_
            refine AllReady.cons rfl (fun K hK => ?_) ?_
            · have hcv := str_of RA.out n
              go_simp
              clear hcv
              refine hK _ _ ?_; clear hK K
              try simp only [Act.put, List.setIfInBounds_toArray, List.set_cons_zero, List.set_cons_succ]
              refine wpAny_ready (rs := [5]) (by kernel_rfl) (by simp) ?_
              refine AllReady.cons rfl (fun K hK => ?_) ?_
              · have hcv := str_of RB.out m
                go_simp
                clear hcv
                refine hK _ _ ?_; clear hK K
                try simp only [Act.put, List.setIfInBounds_toArray, List.set_cons_zero, List.set_cons_succ]
                refine wpAny_ready (rs := [6]) (by kernel_rfl) (by simp) ?_
                refine ready_list rfl (fun K hK => ?_) ?_
                · refine wpList_build3 rfl 28 [(2, .const (.int .u64 1)), (3, .tmp 29), (4, .tmp 32)] rfl _ rfl _ (chg_built2 _ _) ?_
                  show wpList _ _ K [] (Act.put _ (some 33) _) _
                  refine hK.out _ _ ?_; clear hK K
                  try simp only [Act.put, List.setIfInBounds_toArray, List.set_cons_zero, List.set_cons_succ]
                  refine wpAny_ready (rs := [8]) (by kernel_rfl) (by simp) ?_
                  refine ready_list rfl (fun K hK => ?_) ?_
                  · refine store_all (cs := chgV zero32 (.slice none 0 0) 1 (strOfNums (zerosB n)) (strOfNums (zerosB m))) 28 (.tmp 7) (.tmp 33) rfl rfl rfl rfl K7.out (chgV_is rfl _ _ _ _) (by rw [chgV_size rfl]; rfl) (chgV_one _ rfl _ _ _) ?_
                    intro w9 hu9
                    have R9 := bx hu9.same
                    have D9 := bx (DD.out.trans (hu9.below hbs))
                    clear hu9
                    show wpList _ _ K [] (Act.put _ none undef) w9
                    refine hK.out _ _ ?_; clear hK K
                    try simp only [Act.put, List.setIfInBounds_toArray, List.set_cons_zero, List.set_cons_succ]
                    refine wpAny_done (by kernel_rfl) ?_ _
                    go_wp2_with fail
                    go_meet
                    case rel => exact ⟨_, rfl, hbs, R9.out, D9.out⟩
                  exact AllReady.nil
                exact AllReady.nil
              exact AllReady.nil
            refine AllReady.cons rfl (fun K hK => ?_) ?_
            · have hcv := str_of RB.out m
              go_simp
              clear hcv
              refine hK _ _ ?_; clear hK K
              try simp only [Act.put, List.setIfInBounds_toArray, List.set_cons_zero, List.set_cons_succ]
              refine wpAny_ready (rs := [2]) (by kernel_rfl) (by simp) ?_
              refine AllReady.cons rfl (fun K hK => ?_) ?_
              · have hcv := str_of RA.out n
                go_simp
                clear hcv
                refine hK _ _ ?_; clear hK K
                try simp only [Act.put, List.setIfInBounds_toArray, List.set_cons_zero, List.set_cons_succ]
                refine wpAny_ready (rs := [6]) (by kernel_rfl) (by simp) ?_
                refine ready_list rfl (fun K hK => ?_) ?_
                · refine wpList_build3 rfl 28 [(2, .const (.int .u64 1)), (3, .tmp 29), (4, .tmp 32)] rfl _ rfl _ (chg_built2 _ _) ?_
                  show wpList _ _ K [] (Act.put _ (some 33) _) _
                  refine hK.out _ _ ?_; clear hK K
                  try simp only [Act.put, List.setIfInBounds_toArray, List.set_cons_zero, List.set_cons_succ]
                  refine wpAny_ready (rs := [8]) (by kernel_rfl) (by simp) ?_
                  refine ready_list rfl (fun K hK => ?_) ?_
                  · refine store_all (cs := chgV zero32 (.slice none 0 0) 1 (strOfNums (zerosB n)) (strOfNums (zerosB m))) 28 (.tmp 7) (.tmp 33) rfl rfl rfl rfl K7.out (chgV_is rfl _ _ _ _) (by rw [chgV_size rfl]; rfl) (chgV_one _ rfl _ _ _) ?_
                    intro w9 hu9
                    have R9 := bx hu9.same
                    have D9 := bx (DD.out.trans (hu9.below hbs))
                    clear hu9
                    show wpList _ _ K [] (Act.put _ none undef) w9
                    refine hK.out _ _ ?_; clear hK K
                    try simp only [Act.put, List.setIfInBounds_toArray, List.set_cons_zero, List.set_cons_succ]
                    refine wpAny_done (by kernel_rfl) ?_ _
                    go_wp2_with fail
                    go_meet
                    case rel => exact ⟨_, rfl, hbs, R9.out, D9.out⟩
                  exact AllReady.nil
                exact AllReady.nil
              exact AllReady.nil
            exact AllReady.nil
          exact AllReady.nil
        refine AllReady.cons rfl (fun K hK => ?_) ?_
        · have hcv := str_of RB.out m
          go_simp
          clear hcv
          refine hK _ _ ?_; clear hK K
          try simp only [Act.put, List.setIfInBounds_toArray, List.set_cons_zero, List.set_cons_succ]
          refine wpAny_ready (rs := [1, 7]) (by kernel_rfl) (by simp) ?_
          refine AllReady.cons rfl (fun K hK => ?_) ?_
          · go_simp
            refine name_alloc (K := K _) ?_
            intro w5 h5
            have F5 := below_of_alloc h5
            try replace RB := bx (RB.out.below F5)
            try replace K7 := bx ((F5.block _ (blk_lt K7.out)).trans K7.out)
            replace DD := bx (DD.out.trans (F5.mono DD.out.size))
            have RA := bx (rd_of_zeros h5)
            clear F5 h5
            refine hK _ _ ?_; clear hK K
            try simp only [Act.put, List.setIfInBounds_toArray, List.set_cons_zero, List.set_cons_succ]
            refine wpAny_ready (rs := [2, 7]) (by kernel_rfl) (by simp) ?_
            refine AllReady.cons rfl (fun K hK => ?_) ?_
            · have hcv := str_of RA.out n
              go_simp
              clear hcv
              refine hK _ _ ?_; clear hK K
              try simp only [Act.put, List.setIfInBounds_toArray, List.set_cons_zero, List.set_cons_succ]
              refine wpAny_ready (rs := [6, 7]) (by kernel_rfl) (by simp) ?_
              refine ready_list rfl (fun K hK => ?_) ?_
              · refine wpList_build3 rfl 28 [(2, .const (.int .u64 1)), (3, .tmp 29), (4, .tmp 32)] rfl _ rfl _ (chg_built2 _ _) ?_
                show wpList _ _ K [] (Act.put _ (some 33) _) _
                refine hK.out _ _ ?_; clear hK K
                try simp only [Act.put, List.setIfInBounds_toArray, List.set_cons_zero, List.set_cons_succ]
                refine wpAny_ready (rs := [7]) (by kernel_rfl) (by simp) ?_
                refine AllReady.cons rfl (fun K hK => ?_) ?_
                · go_simp
                  refine name_alloc (K := K _) ?_
                  intro w5 h5
                  have F5 := below_of_alloc h5
                  try replace RA := bx (RA.out.below F5)
                  try replace RB := bx (RB.out.below F5)
                  have hbs := DD.out.size
                  replace DD := bx (DD.out.trans (F5.mono DD.out.size))
                  have K7 := bx (blk_of_alloc h5)
                  clear F5 h5
                  refine hK _ _ ?_; clear hK K
                  try simp only [Act.put, List.setIfInBounds_toArray, List.set_cons_zero, List.set_cons_succ]
                  refine wpAny_ready (rs := [8]) (by kernel_rfl) (by simp) ?_
                  refine ready_list rfl (fun K hK => ?_) ?_
                  · refine store_all (cs := chgV zero32 (.slice none 0 0) 1 (strOfNums (zerosB n)) (strOfNums (zerosB m))) 28 (.tmp 7) (.tmp 33) rfl rfl rfl rfl K7.out (chgV_is rfl _ _ _ _) (by rw [chgV_size rfl]; rfl) (chgV_one _ rfl _ _ _) ?_
                    intro w9 hu9
                    have R9 := bx hu9.same
                    have D9 := bx (DD.out.trans (hu9.below hbs))
                    clear hu9
                    show wpList _ _ K [] (Act.put _ none undef) w9
                    refine hK.out _ _ ?_; clear hK K
                    try simp only [Act.put, List.setIfInBounds_toArray, List.set_cons_zero, List.set_cons_succ]
                    refine wpAny_done (by kernel_rfl) ?_ _
                    go_wp2_with fail
                    go_meet
                    case rel => exact ⟨_, rfl, hbs, R9.out, D9.out⟩
                  exact AllReady.nil
                exact AllReady.nil
              refine AllReady.cons rfl (fun K hK => ?_) ?_
              · go_simp
                refine name_alloc (K := K _) ?_
                intro w5 h5
                have F5 := below_of_alloc h5
                try replace RA := bx (RA.out.below F5)
                try replace RB := bx (RB.out.below F5)
                have hbs := DD.out.size
                replace DD := bx (DD.out.trans (F5.mono DD.out.size))
                have K7 := bx (blk_of_alloc h5)
                clear F5 h5
                refine hK _ _ ?_; clear hK K
                try simp only [Act.put, List.setIfInBounds_toArray, List.set_cons_zero, List.set_cons_succ]
                refine wpAny_ready (rs := [6]) (by kernel_rfl) (by simp) ?_
                refine ready_list rfl (fun K hK => ?_) ?_
                · refine wpList_build3 rfl 28 [(2, .const (.int .u64 1)), (3, .tmp 29), (4, .tmp 32)] rfl _ rfl _ (chg_built2 _ _) ?_
                  show wpList _ _ K [] (Act.put _ (some 33) _) _
                  refine hK.out _ _ ?_; clear hK K
                  try simp only [Act.put, List.setIfInBounds_toArray, List.set_cons_zero, List.set_cons_succ]
                  refine wpAny_ready (rs := [8]) (by kernel_rfl) (by simp) ?_
                  refine ready_list rfl (fun K hK => ?_) ?_
                  · refine store_all (cs := chgV zero32 (.slice none 0 0) 1 (strOfNums (zerosB n)) (strOfNums (zerosB m))) 28 (.tmp 7) (.tmp 33) rfl rfl rfl rfl K7.out (chgV_is rfl _ _ _ _) (by rw [chgV_size rfl]; rfl) (chgV_one _ rfl _ _ _) ?_
                    intro w9 hu9
                    have R9 := bx hu9.same
                    have D9 := bx (DD.out.trans (hu9.below hbs))
                    clear hu9
                    show wpList _ _ K [] (Act.put _ none undef) w9
                    refine hK.out _ _ ?_; clear hK K
                    try simp only [Act.put, List.setIfInBounds_toArray, List.set_cons_zero, List.set_cons_succ]
                    refine wpAny_done (by kernel_rfl) ?_ _
                    go_wp2_with fail
                    go_meet
                    case rel => exact ⟨_, rfl, hbs, R9.out, D9.out⟩
                  exact AllReady.nil
                exact AllReady.nil
              exact AllReady.nil
            refine AllReady.cons rfl (fun K hK => ?_) ?_
            · go_simp
              refine name_alloc (K := K _) ?_
              intro w5 h5
              have F5 := below_of_alloc h5
              try replace RA := bx (RA.out.below F5)
              try replace RB := bx (RB.out.below F5)
              have hbs := DD.out.size
              replace DD := bx (DD.out.trans (F5.mono DD.out.size))
              have K7 := bx (blk_of_alloc h5)
              clear F5 h5
              refine hK _ _ ?_; clear hK K
              try simp only [Act.put, List.setIfInBounds_toArray, List.set_cons_zero, List.set_cons_succ]
              refine wpAny_ready (rs := [2]) (by kernel_rfl) (by simp) ?_
              refine AllReady.cons rfl (fun K hK => ?_) ?_
              · have hcv := str_of RA.out n
                go_simp
                clear hcv
                refine hK _ _ ?_; clear hK K
                try simp only [Act.put, List.setIfInBounds_toArray, List.set_cons_zero, List.set_cons_succ]
                refine wpAny_ready (rs := [6]) (by kernel_rfl) (by simp) ?_
                refine ready_list rfl (fun K hK => ?_) ?_
                · refine wpList_build3 rfl 28 [(2, .const (.int .u64 1)), (3, .tmp 29), (4, .tmp 32)] rfl _ rfl _ (chg_built2 _ _) ?_
                  show wpList _ _ K [] (Act.put _ (some 33) _) _
                  refine hK.out _ _ ?_; clear hK K
                  try simp only [Act.put, List.setIfInBounds_toArray, List.set_cons_zero, List.set_cons_succ]
                  refine wpAny_ready (rs := [8]) (by kernel_rfl) (by simp) ?_
                  refine ready_list rfl (fun K hK => ?_) ?_
                  · refine store_all (cs := chgV zero32 (.slice none 0 0) 1 (strOfNums (zerosB n)) (strOfNums (zerosB m))) 28 (.tmp 7) (.tmp 33) rfl rfl rfl rfl K7.out (chgV_is rfl _ _ _ _) (by rw [chgV_size rfl]; rfl) (chgV_one _ rfl _ _ _) ?_
                    intro w9 hu9
                    have R9 := bx hu9.same
                    have D9 := bx (DD.out.trans (hu9.below hbs))
                    clear hu9
                    show wpList _ _ K [] (Act.put _ none undef) w9
                    refine hK.out _ _ ?_; clear hK K
                    try simp only [Act.put, List.setIfInBounds_toArray, List.set_cons_zero, List.set_cons_succ]
                    refine wpAny_done (by kernel_rfl) ?_ _
                    go_wp2_with fail
                    go_meet
                    case rel => exact ⟨_, rfl, hbs, R9.out, D9.out⟩
                  exact AllReady.nil
                exact AllReady.nil
              exact AllReady.nil
            exact AllReady.nil
          refine AllReady.cons rfl (fun K hK => ?_) ?_
          · go_simp
            refine name_alloc (K := K _) ?_
            intro w5 h5
            have F5 := below_of_alloc h5
            try replace RA := bx (RA.out.below F5)
            try replace RB := bx (RB.out.below F5)
            have hbs := DD.out.size
            replace DD := bx (DD.out.trans (F5.mono DD.out.size))
            have K7 := bx (blk_of_alloc h5)
            clear F5 h5
            refine hK _ _ ?_; clear hK K
            try simp only [Act.put, List.setIfInBounds_toArray, List.set_cons_zero, List.set_cons_succ]
            refine wpAny_ready (rs := [1]) (by kernel_rfl) (by simp) ?_
            refine AllReady.cons rfl (fun K hK => ?_) ?_
            · go_simp
              refine name_alloc (K := K _) ?_
              intro w5 h5
              have F5 := below_of_alloc h5
              try replace RB := bx (RB.out.below F5)
              try replace K7 := bx ((F5.block _ (blk_lt K7.out)).trans K7.out)
              replace DD := bx (DD.out.trans (F5.mono DD.out.size))
              have RA := bx (rd_of_zeros h5)
              clear F5 h5
              refine hK _ _ ?_; clear hK K
              try simp only [Act.put, List.setIfInBounds_toArray, List.set_cons_zero, List.set_cons_succ]
              refine wpAny_ready (rs := [2]) (by kernel_rfl) (by simp) ?_
              refine AllReady.cons rfl (fun K hK => ?_) ?_
              · have hcv := str_of RA.out n
                go_simp
                clear hcv
                refine hK _ _ ?_; clear hK K
                try simp only [Act.put, List.setIfInBounds_toArray, List.set_cons_zero, List.set_cons_succ]
                refine wpAny_ready (rs := [6]) (by kernel_rfl) (by simp) ?_
                refine ready_list rfl (fun K hK => ?_) ?_
                · refine wpList_build3 rfl 28 [(2, .const (.int .u64 1)), (3, .tmp 29), (4, .tmp 32)] rfl _ rfl _ (chg_built2 _ _) ?_
                  show wpList _ _ K [] (Act.put _ (some 33) _) _
                  refine hK.out _ _ ?_; clear hK K
                  try simp only [Act.put, List.setIfInBounds_toArray, List.set_cons_zero, List.set_cons_succ]
                  refine wpAny_ready (rs := [8]) (by kernel_rfl) (by simp) ?_
                  refine ready_list rfl (fun K hK => ?_) ?_
                  · refine store_all (cs := chgV zero32 (.slice none 0 0) 1 (strOfNums (zerosB n)) (strOfNums (zerosB m))) 28 (.tmp 7) (.tmp 33) rfl rfl rfl rfl K7.out (chgV_is rfl _ _ _ _) (by rw [chgV_size rfl]; rfl) (chgV_one _ rfl _ _ _) ?_
                    intro w9 hu9
                    have R9 := bx hu9.same
                    have D9 := bx (DD.out.trans (hu9.below hbs))
                    clear hu9
                    show wpList _ _ K [] (Act.put _ none undef) w9
                    refine hK.out _ _ ?_; clear hK K
                    try simp only [Act.put, List.setIfInBounds_toArray, List.set_cons_zero, List.set_cons_succ]
                    refine wpAny_done (by kernel_rfl) ?_ _
                    go_wp2_with fail
                    go_meet
                    case rel => exact ⟨_, rfl, hbs, R9.out, D9.out⟩
                  exact AllReady.nil
                exact AllReady.nil
              exact AllReady.nil
            exact AllReady.nil
          exact AllReady.nil
        refine AllReady.cons rfl (fun K hK => ?_) ?_
        · go_simp
          refine name_alloc (K := K _) ?_
          intro w5 h5
          have F5 := below_of_alloc h5
          try replace RA := bx (RA.out.below F5)
          try replace RB := bx (RB.out.below F5)
          have hbs := DD.out.size
          replace DD := bx (DD.out.trans (F5.mono DD.out.size))
          have K7 := bx (blk_of_alloc h5)
          clear F5 h5
          refine hK _ _ ?_; clear hK K
          try simp only [Act.put, List.setIfInBounds_toArray, List.set_cons_zero, List.set_cons_succ]
          refine wpAny_ready (rs := [1, 5]) (by kernel_rfl) (by simp) ?_
          refine AllReady.cons rfl (fun K hK => ?_) ?_
          · go_simp
            refine name_alloc (K := K _) ?_
            intro w5 h5
            have F5 := below_of_alloc h5
            try replace RB := bx (RB.out.below F5)
            try replace K7 := bx ((F5.block _ (blk_lt K7.out)).trans K7.out)
            replace DD := bx (DD.out.trans (F5.mono DD.out.size))
            have RA := bx (rd_of_zeros h5)
            clear F5 h5
            refine hK _ _ ?_; clear hK K
            try simp only [Act.put, List.setIfInBounds_toArray, List.set_cons_zero, List.set_cons_succ]
            refine wpAny_ready (rs := [2, 5]) (by kernel_rfl) (by simp) ?_
            refine AllReady.cons rfl (fun K hK => ?_) ?_
            · have hcv := str_of RA.out n
              go_simp
              clear hcv
              refine hK _ _ ?_; clear hK K
              try simp only [Act.put, List.setIfInBounds_toArray, List.set_cons_zero, List.set_cons_succ]
              refine wpAny_ready (rs := [5]) (by kernel_rfl) (by simp) ?_
              refine AllReady.cons rfl (fun K hK => ?_) ?_
              · have hcv := str_of RB.out m
                go_simp
                clear hcv
                refine hK _ _ ?_; clear hK K
                try simp only [Act.put, List.setIfInBounds_toArray, List.set_cons_zero, List.set_cons_succ]
                refine wpAny_ready (rs := [6]) (by kernel_rfl) (by simp) ?_
                refine ready_list rfl (fun K hK => ?_) ?_
                · refine wpList_build3 rfl 28 [(2, .const (.int .u64 1)), (3, .tmp 29), (4, .tmp 32)] rfl _ rfl _ (chg_built2 _ _) ?_
                  show wpList _ _ K [] (Act.put _ (some 33) _) _
                  refine hK.out _ _ ?_; clear hK K
                  try simp only [Act.put, List.setIfInBounds_toArray, List.set_cons_zero, List.set_cons_succ]
                  refine wpAny_ready (rs := [8]) (by kernel_rfl) (by simp) ?_
                  refine ready_list rfl (fun K hK => ?_) ?_
                  · refine store_all (cs := chgV zero32 (.slice none 0 0) 1 (strOfNums (zerosB n)) (strOfNums (zerosB m))) 28 (.tmp 7) (.tmp 33) rfl rfl rfl rfl K7.out (chgV_is rfl _ _ _ _) (by rw [chgV_size rfl]; rfl) (chgV_one _ rfl _ _ _) ?_
                    intro w9 hu9
                    have R9 := bx hu9.same
                    have D9 := bx (DD.out.trans (hu9.below hbs))
                    clear hu9
                    show wpList _ _ K [] (Act.put _ none undef) w9
                    refine hK.out _ _ ?_; clear hK K
                    try simp only [Act.put, List.setIfInBounds_toArray, List.set_cons_zero, List.set_cons_succ]
                    refine wpAny_done (by kernel_rfl) ?_ _
                    go_wp2_with fail
                    go_meet
                    case rel => exact ⟨_, rfl, hbs, R9.out, D9.out⟩
                  exact AllReady.nil
                exact AllReady.nil
              exact AllReady.nil
            refine AllReady.cons rfl (fun K hK => ?_) ?_
            · have hcv := str_of RB.out m
              go_simp
              clear hcv
              refine hK _ _ ?_; clear hK K
              try simp only [Act.put, List.setIfInBounds_toArray, List.set_cons_zero, List.set_cons_succ]
              refine wpAny_ready (rs := [2]) (by kernel_rfl) (by simp) ?_
              refine AllReady.cons rfl (fun K hK => ?_) ?_
              · have hcv := str_of RA.out n
                go_simp
                clear hcv
                refine hK _ _ ?_; clear hK K
                try simp only [Act.put, List.setIfInBounds_toArray, List.set_cons_zero, List.set_cons_succ]
                refine wpAny_ready (rs := [6]) (by kernel_rfl) (by simp) ?_
                refine ready_list rfl (fun K hK => ?_) ?_
                · refine wpList_build3 rfl 28 [(2, .const (.int .u64 1)), (3, .tmp 29), (4, .tmp 32)] rfl _ rfl _ (chg_built2 _ _) ?_
                  show wpList _ _ K [] (Act.put _ (some 33) _) _
                  refine hK.out _ _ ?_; clear hK K
                  try simp only [Act.put, List.setIfInBounds_toArray, List.set_cons_zero, List.set_cons_succ]
                  refine wpAny_ready (rs := [8]) (by kernel_rfl) (by simp) ?_
                  refine ready_list rfl (fun K hK => ?_) ?_
                  · refine store_all (cs := chgV zero32 (.slice none 0 0) 1 (strOfNums (zerosB n)) (strOfNums (zerosB m))) 28 (.tmp 7) (.tmp 33) rfl rfl rfl rfl K7.out (chgV_is rfl _ _ _ _) (by rw [chgV_size rfl]; rfl) (chgV_one _ rfl _ _ _) ?_
                    intro w9 hu9
                    have R9 := bx hu9.same
                    have D9 := bx (DD.out.trans (hu9.below hbs))
                    clear hu9
                    show wpList _ _ K [] (Act.put _ none undef) w9
                    refine hK.out _ _ ?_; clear hK K
                    try simp only [Act.put, List.setIfInBounds_toArray, List.set_cons_zero, List.set_cons_succ]
                    refine wpAny_done (by kernel_rfl) ?_ _
                    go_wp2_with fail
                    go_meet
                    case rel => exact ⟨_, rfl, hbs, R9.out, D9.out⟩
                  exact AllReady.nil
                exact AllReady.nil
              exact AllReady.nil
            exact AllReady.nil
          refine AllReady.cons rfl (fun K hK => ?_) ?_
          · have hcv := str_of RB.out m
            go_simp
            clear hcv
            refine hK _ _ ?_; clear hK K
            try simp only [Act.put, List.setIfInBounds_toArray, List.set_cons_zero, List.set_cons_succ]
            refine wpAny_ready (rs := [1]) (by kernel_rfl) (by simp) ?_
            refine AllReady.cons rfl (fun K hK => ?_) ?_
            · go_simp
              refine name_alloc (K := K _) ?_
              intro w5 h5
              have F5 := below_of_alloc h5
              try replace RB := bx (RB.out.below F5)
              try replace K7 := bx ((F5.block _ (blk_lt K7.out)).trans K7.out)
              replace DD := bx (DD.out.trans (F5.mono DD.out.size))
              have RA := bx (rd_of_zeros h5)
              clear F5 h5
              refine hK _ _ ?_; clear hK K
              try simp only [Act.put, List.setIfInBounds_toArray, List.set_cons_zero, List.set_cons_succ]
              refine wpAny_ready (rs := [2]) (by kernel_rfl) (by simp) ?_
              refine AllReady.cons rfl (fun K hK => ?_) ?_
              · have hcv := str_of RA.out n
                go_simp
                clear hcv
                refine hK _ _ ?_; clear hK K
                try simp only [Act.put, List.setIfInBounds_toArray, List.set_cons_zero, List.set_cons_succ]
                refine wpAny_ready (rs := [6]) (by kernel_rfl) (by simp) ?_
                refine ready_list rfl (fun K hK => ?_) ?_
                · refine wpList_build3 rfl 28 [(2, .const (.int .u64 1)), (3, .tmp 29), (4, .tmp 32)] rfl _ rfl _ (chg_built2 _ _) ?_
                  show wpList _ _ K [] (Act.put _ (some 33) _) _
                  refine hK.out _ _ ?_; clear hK K
                  try simp only [Act.put, List.setIfInBounds_toArray, List.set_cons_zero, List.set_cons_succ]
                  refine wpAny_ready (rs := [8]) (by kernel_rfl) (by simp) ?_
                  refine ready_list rfl (fun K hK => ?_) ?_
                  · refine store_all (cs := chgV zero32 (.slice none 0 0) 1 (strOfNums (zerosB n)) (strOfNums (zerosB m))) 28 (.tmp 7) (.tmp 33) rfl rfl rfl rfl K7.out (chgV_is rfl _ _ _ _) (by rw [chgV_size rfl]; rfl) (chgV_one _ rfl _ _ _) ?_
                    intro w9 hu9
                    have R9 := bx hu9.same
                    have D9 := bx (DD.out.trans (hu9.below hbs))
                    clear hu9
                    show wpList _ _ K [] (Act.put _ none undef) w9
                    refine hK.out _ _ ?_; clear hK K
                    try simp only [Act.put, List.setIfInBounds_toArray, List.set_cons_zero, List.set_cons_succ]
                    refine wpAny_done (by kernel_rfl) ?_ _
                    go_wp2_with fail
                    go_meet
                    case rel => exact ⟨_, rfl, hbs, R9.out, D9.out⟩
                  exact AllReady.nil
                exact AllReady.nil
              exact AllReady.nil
            exact AllReady.nil
          exact AllReady.nil
        exact AllReady.nil
      refine AllReady.cons rfl (fun K hK => ?_) ?_
      · go_simp
        refine name_alloc (K := K _) ?_
        intro w5 h5
        have F5 := below_of_alloc h5
        try replace RA := bx (RA.out.below F5)
        try replace RB := bx (RB.out.below F5)
        have hbs := DD.out.size
        replace DD := bx (DD.out.trans (F5.mono DD.out.size))
        have K7 := bx (blk_of_alloc h5)
        clear F5 h5
        refine hK _ _ ?_; clear hK K
        try simp only [Act.put, List.setIfInBounds_toArray, List.set_cons_zero, List.set_cons_succ]
        refine wpAny_ready (rs := [1, 4]) (by kernel_rfl) (by simp) ?_
        refine AllReady.cons rfl (fun K hK => ?_) ?_
        · go_simp
          refine name_alloc (K := K _) ?_
          intro w5 h5
          have F5 := below_of_alloc h5
          try replace RB := bx (RB.out.below F5)
          try replace K7 := bx ((F5.block _ (blk_lt K7.out)).trans K7.out)
          replace DD := bx (DD.out.trans (F5.mono DD.out.size))
          have RA := bx (rd_of_zeros h5)
          clear F5 h5
          refine hK _ _ ?_; clear hK K
          try simp only [Act.put, List.setIfInBounds_toArray, List.set_cons_zero, List.set_cons_succ]
          refine wpAny_ready (rs := [2, 4]) (by kernel_rfl) (by simp) ?_
          refine AllReady.cons rfl (fun K hK => ?_) ?_
          · have hcv := str_of RA.out n
            go_simp
            clear hcv
            refine hK _ _ ?_; clear hK K
            try simp only [Act.put, List.setIfInBounds_toArray, List.set_cons_zero, List.set_cons_succ]
            refine wpAny_ready (rs := [4]) (by kernel_rfl) (by simp) ?_
            refine AllReady.cons rfl (fun K hK => ?_) ?_
            · go_simp
              refine name_alloc (K := K _) ?_
              intro w5 h5
              have F5 := below_of_alloc h5
              try replace RA := bx (RA.out.below F5)
              try replace K7 := bx ((F5.block _ (blk_lt K7.out)).trans K7.out)
              replace DD := bx (DD.out.trans (F5.mono DD.out.size))
              have RB := bx (rd_of_zeros h5)
              clear F5 h5
              refine hK _ _ ?_; clear hK K
              try simp only [Act.put, List.setIfInBounds_toArray, List.set_cons_zero, List.set_cons_succ]
              refine wpAny_ready (rs := [5]) (by kernel_rfl) (by simp) ?_
              refine AllReady.cons rfl (fun K hK => ?_) ?_
              · have hcv := str_of RB.out m
                go_simp
                clear hcv
                refine hK _ _ ?_; clear hK K
                try simp only [Act.put, List.setIfInBounds_toArray, List.set_cons_zero, List.set_cons_succ]
                refine wpAny_ready (rs := [6]) (by kernel_rfl) (by simp) ?_
                refine ready_list rfl (fun K hK => ?_) ?_
                · refine wpList_build3 rfl 28 [(2, .const (.int .u64 1)), (3, .tmp 29), (4, .tmp 32)] rfl _ rfl _ (chg_built2 _ _) ?_
                  show wpList _ _ K [] (Act.put _ (some 33) _) _
                  refine hK.out _ _ ?_; clear hK K
                  try simp only [Act.put, List.setIfInBounds_toArray, List.set_cons_zero, List.set_cons_succ]
                  refine wpAny_ready (rs := [8]) (by kernel_rfl) (by simp) ?_
                  refine ready_list rfl (fun K hK => ?_) ?_
                  · refine store_all (cs := chgV zero32 (.slice none 0 0) 1 (strOfNums (zerosB n)) (strOfNums (zerosB m))) 28 (.tmp 7) (.tmp 33) rfl rfl rfl rfl K7.out (chgV_is rfl _ _ _ _) (by rw [chgV_size rfl]; rfl) (chgV_one _ rfl _ _ _) ?_
                    intro w9 hu9
                    have R9 := bx hu9.same
                    have D9 := bx (DD.out.trans (hu9.below hbs))
                    clear hu9
                    show wpList _ _ K [] (Act.put _ none undef) w9
                    refine hK.out _ _ ?_; clear hK K
                    try simp only [Act.put, List.setIfInBounds_toArray, List.set_cons_zero, List.set_cons_succ]
                    refine wpAny_done (by kernel_rfl) ?_ _
                    go_wp2_with fail
                    go_meet
                    case rel => exact ⟨_, rfl, hbs, R9.out, D9.out⟩
                  exact AllReady.nil
                exact AllReady.nil
              exact AllReady.nil
            exact AllReady.nil
          refine AllReady.cons rfl (fun K hK => ?_) ?_
          · go_simp
            refine name_alloc (K := K _) ?_
            intro w5 h5
            have F5 := below_of_alloc h5
            try replace RA := bx (RA.out.below F5)
            try replace K7 := bx ((F5.block _ (blk_lt K7.out)).trans K7.out)
            replace DD := bx (DD.out.trans (F5.mono DD.out.size))
            have RB := bx (rd_of_zeros h5)
            clear F5 h5
            refine hK _ _ ?_; clear hK K
            try simp only [Act.put, List.setIfInBounds_toArray, List.set_cons_zero, List.set_cons_succ]
            refine wpAny_ready (rs := [2, 5]) (by kernel_rfl) (by simp) ?_
            refine AllReady.cons rfl (fun K hK => ?_) ?_
            · have hcv := str_of RA.out n
              go_simp
              clear hcv
              refine hK _ _ ?_; clear hK K
              try simp only [Act.put, List.setIfInBounds_toArray, List.set_cons_zero, List.set_cons_succ]
              refine wpAny_ready (rs := [5]) (by kernel_rfl) (by simp) ?_
              refine AllReady.cons rfl (fun K hK => ?_) ?_
              · have hcv := str_of RB.out m
                go_simp
                clear hcv
                refine hK _ _ ?_; clear hK K
                try simp only [Act.put, List.setIfInBounds_toArray, List.set_cons_zero, List.set_cons_succ]
                refine wpAny_ready (rs := [6]) (by kernel_rfl) (by simp) ?_
                refine ready_list rfl (fun K hK => ?_) ?_
                · refine wpList_build3 rfl 28 [(2, .const (.int .u64 1)), (3, .tmp 29), (4, .tmp 32)] rfl _ rfl _ (chg_built2 _ _) ?_
                  show wpList _ _ K [] (Act.put _ (some 33) _) _
                  refine hK.out _ _ ?_; clear hK K
                  try simp only [Act.put, List.setIfInBounds_toArray, List.set_cons_zero, List.set_cons_succ]
                  refine wpAny_ready (rs := [8]) (by kernel_rfl) (by simp) ?_
                  refine ready_list rfl (fun K hK => ?_) ?_
                  · refine store_all (cs := chgV zero32 (.slice none 0 0) 1 (strOfNums (zerosB n)) (strOfNums (zerosB m))) 28 (.tmp 7) (.tmp 33) rfl rfl rfl rfl K7.out (chgV_is rfl _ _ _ _) (by rw [chgV_size rfl]; rfl) (chgV_one _ rfl _ _ _) ?_
                    intro w9 hu9
                    have R9 := bx hu9.same
                    have D9 := bx (DD.out.trans (hu9.below hbs))
                    clear hu9
                    show wpList _ _ K [] (Act.put _ none undef) w9
                    refine hK.out _ _ ?_; clear hK K
                    try simp only [Act.put, List.setIfInBounds_toArray, List.set_cons_zero, List.set_cons_succ]
                    refine wpAny_done (by kernel_rfl) ?_ _
                    go_wp2_with fail
                    go_meet
                    case rel => exact ⟨_, rfl, hbs, R9.out, D9.out⟩
                  exact AllReady.nil
                exact AllReady.nil
              exact AllReady.nil
            refine AllReady.cons rfl (fun K hK => ?_) ?_
            · have hcv := str_of RB.out m
              go_simp
              clear hcv
              refine hK _ _ ?_; clear hK K
              try simp only [Act.put, List.setIfInBounds_toArray, List.set_cons_zero, List.set_cons_succ]
              refine wpAny_ready (rs := [2]) (by kernel_rfl) (by simp) ?_
              refine AllReady.cons rfl (fun K hK => ?_) ?_
              · have hcv := str_of RA.out n
                go_simp
                clear hcv
                refine hK _ _ ?_; clear hK K
                try simp only [Act.put, List.setIfInBounds_toArray, List.set_cons_zero, List.set_cons_succ]
                refine wpAny_ready (rs := [6]) (by kernel_rfl) (by simp) ?_
                refine ready_list rfl (fun K hK => ?_) ?_
                · refine wpList_build3 rfl 28 [(2, .const (.int .u64 1)), (3, .tmp 29), (4, .tmp 32)] rfl _ rfl _ (chg_built2 _ _) ?_
                  show wpList _ _ K [] (Act.put _ (some 33) _) _
                  refine hK.out _ _ ?_; clear hK K
                  try simp only [Act.put, List.setIfInBounds_toArray, List.set_cons_zero, List.set_cons_succ]
                  refine wpAny_ready (rs := [8]) (by kernel_rfl) (by simp) ?_
                  refine ready_list rfl (fun K hK => ?_) ?_
                  · refine store_all (cs := chgV zero32 (.slice none 0 0) 1 (strOfNums (zerosB n)) (strOfNums (zerosB m))) 28 (.tmp 7) (.tmp 33) rfl rfl rfl rfl K7.out (chgV_is rfl _ _ _ _) (by rw [chgV_size rfl]; rfl) (chgV_one _ rfl _ _ _) ?_
                    intro w9 hu9
                    have R9 := bx hu9.same
                    have D9 := bx (DD.out.trans (hu9.below hbs))
                    clear hu9
                    show wpList _ _ K [] (Act.put _ none undef) w9
                    refine hK.out _ _ ?_; clear hK K
                    try simp only [Act.put, List.setIfInBounds_toArray, List.set_cons_zero, List.set_cons_succ]
                    refine wpAny_done (by kernel_rfl) ?_ _
                    go_wp2_with fail
                    go_meet
                    case rel => exact ⟨_, rfl, hbs, R9.out, D9.out⟩
                  exact AllReady.nil
                exact AllReady.nil
              exact AllReady.nil
            exact AllReady.nil
          exact AllReady.nil
        refine AllReady.cons rfl (fun K hK => ?_) ?_
        · go_simp
          refine name_alloc (K := K _) ?_
          intro w5 h5
          have F5 := below_of_alloc h5
          try replace RA := bx (RA.out.below F5)
          try replace K7 := bx ((F5.block _ (blk_lt K7.out)).trans K7.out)
          replace DD := bx (DD.out.trans (F5.mono DD.out.size))
          have RB := bx (rd_of_zeros h5)
          clear F5 h5
          refine hK _ _ ?_; clear hK K
          try simp only [Act.put, List.setIfInBounds_toArray, List.set_cons_zero, List.set_cons_succ]
          refine wpAny_ready (rs := [1, 5]) (by kernel_rfl) (by simp) ?_
          refine AllReady.cons rfl (fun K hK => ?_) ?_
          · go_simp
            refine name_alloc (K := K _) ?_
            intro w5 h5
            have F5 := below_of_alloc h5
            try replace RB := bx (RB.out.below F5)
            try replace K7 := bx ((F5.block _ (blk_lt K7.out)).trans K7.out)
            replace DD := bx (DD.out.trans (F5.mono DD.out.size))
            have RA := bx (rd_of_zeros h5)
            clear F5 h5
            refine hK _ _ ?_; clear hK K
            try simp only [Act.put, List.setIfInBounds_toArray, List.set_cons_zero, List.set_cons_succ]
            refine wpAny_ready (rs := [2, 5]) (by kernel_rfl) (by simp) ?_
            refine AllReady.cons rfl (fun K hK => ?_) ?_
            · have hcv := str_of RA.out n
              go_simp
              clear hcv
              refine hK _ _ ?_; clear hK K
              try simp only [Act.put, List.setIfInBounds_toArray, List.set_cons_zero, List.set_cons_succ]
              refine wpAny_ready (rs := [5]) (by kernel_rfl) (by simp) ?_
              refine AllReady.cons rfl (fun K hK => ?_) ?_
              · have hcv := str_of RB.out m
                go_simp
                clear hcv
                refine hK _ _ ?_; clear hK K
                try simp only [Act.put, List.setIfInBounds_toArray, List.set_cons_zero, List.set_cons_succ]
                refine wpAny_ready (rs := [6]) (by kernel_rfl) (by simp) ?_
                refine ready_list rfl (fun K hK => ?_) ?_
                · refine wpList_build3 rfl 28 [(2, .const (.int .u64 1)), (3, .tmp 29), (4, .tmp 32)] rfl _ rfl _ (chg_built2 _ _) ?_
                  show wpList _ _ K [] (Act.put _ (some 33) _) _
                  refine hK.out _ _ ?_; clear hK K
                  try simp only [Act.put, List.setIfInBounds_toArray, List.set_cons_zero, List.set_cons_succ]
                  refine wpAny_ready (rs := [8]) (by kernel_rfl) (by simp) ?_
                  refine ready_list rfl (fun K hK => ?_) ?_
                  · refine store_all (cs := chgV zero32 (.slice none 0 0) 1 (strOfNums (zerosB n)) (strOfNums (zerosB m))) 28 (.tmp 7) (.tmp 33) rfl rfl rfl rfl K7.out (chgV_is rfl _ _ _ _) (by rw [chgV_size rfl]; rfl) (chgV_one _ rfl _ _ _) ?_
                    intro w9 hu9
                    have R9 := bx hu9.same
                    have D9 := bx (DD.out.trans (hu9.below hbs))
                    clear hu9
                    show wpList _ _ K [] (Act.put _ none undef) w9
                    refine hK.out _ _ ?_; clear hK K
                    try simp only [Act.put, List.setIfInBounds_toArray, List.set_cons_zero, List.set_cons_succ]
                    refine wpAny_done (by kernel_rfl) ?_ _
                    go_wp2_with fail
                    go_meet
                    case rel => exact ⟨_, rfl, hbs, R9.out, D9.out⟩
                  exact AllReady.nil
                exact AllReady.nil
              exact AllReady.nil
            refine AllReady.cons rfl (fun K hK => ?_) ?_
            · have hcv := str_of RB.out m
              go_simp
              clear hcv
              refine hK _ _ ?_; clear hK K
              try simp only [Act.put, List.setIfInBounds_toArray, List.set_cons_zero, List.set_cons_succ]
              refine wpAny_ready (rs := [2]) (by kernel_rfl) (by simp) ?_
              refine AllReady.cons rfl (fun K hK => ?_) ?_
              · have hcv := str_of RA.out n
                go_simp
                clear hcv
                refine hK _ _ ?_; clear hK K
                try simp only [Act.put, List.setIfInBounds_toArray, List.set_cons_zero, List.set_cons_succ]
                refine wpAny_ready (rs := [6]) (by kernel_rfl) (by simp) ?_
                refine ready_list rfl (fun K hK => ?_) ?_
                · refine wpList_build3 rfl 28 [(2, .const (.int .u64 1)), (3, .tmp 29), (4, .tmp 32)] rfl _ rfl _ (chg_built2 _ _) ?_
                  show wpList _ _ K [] (Act.put _ (some 33) _) _
                  refine hK.out _ _ ?_; clear hK K
                  try simp only [Act.put, List.setIfInBounds_toArray, List.set_cons_zero, List.set_cons_succ]
                  refine wpAny_ready (rs := [8]) (by kernel_rfl) (by simp) ?_
                  refine ready_list rfl (fun K hK => ?_) ?_
                  · refine store_all (cs := chgV zero32 (.slice none 0 0) 1 (strOfNums (zerosB n)) (strOfNums (zerosB m))) 28 (.tmp 7) (.tmp 33) rfl rfl rfl rfl K7.out (chgV_is rfl _ _ _ _) (by rw [chgV_size rfl]; rfl) (chgV_one _ rfl _ _ _) ?_
                    intro w9 hu9
                    have R9 := bx hu9.same
                    have D9 := bx (DD.out.trans (hu9.below hbs))
                    clear hu9
                    show wpList _ _ K [] (Act.put _ none undef) w9
                    refine hK.out _ _ ?_; clear hK K
                    try simp only [Act.put, List.setIfInBounds_toArray, List.set_cons_zero, List.set_cons_succ]
                    refine wpAny_done (by kernel_rfl) ?_ _
                    go_wp2_with fail
                    go_meet
                    case rel => exact ⟨_, rfl, hbs, R9.out, D9.out⟩
                  exact AllReady.nil
                exact AllReady.nil
              exact AllReady.nil
            exact AllReady.nil
          refine AllReady.cons rfl (fun K hK => ?_) ?_
          · have hcv := str_of RB.out m
            go_simp
            clear hcv
            refine hK _ _ ?_; clear hK K
            try simp only [Act.put, List.setIfInBounds_toArray, List.set_cons_zero, List.set_cons_succ]
            refine wpAny_ready (rs := [1]) (by kernel_rfl) (by simp) ?_
            refine AllReady.cons rfl (fun K hK => ?_) ?_
            · go_simp
              refine name_alloc (K := K _) ?_
              intro w5 h5
              have F5 := below_of_alloc h5
              try replace RB := bx (RB.out.below F5)
              try replace K7 := bx ((F5.block _ (blk_lt K7.out)).trans K7.out)
              replace DD := bx (DD.out.trans (F5.mono DD.out.size))
              have RA := bx (rd_of_zeros h5)
              clear F5 h5
              refine hK _ _ ?_; clear hK K
              try simp only [Act.put, List.setIfInBounds_toArray, List.set_cons_zero, List.set_cons_succ]
              refine wpAny_ready (rs := [2]) (by kernel_rfl) (by simp) ?_
              refine AllReady.cons rfl (fun K hK => ?_) ?_
              · have hcv := str_of RA.out n
                go_simp
                clear hcv
                refine hK _ _ ?_; clear hK K
                try simp only [Act.put, List.setIfInBounds_toArray, List.set_cons_zero, List.set_cons_succ]
                refine wpAny_ready (rs := [6]) (by kernel_rfl) (by simp) ?_
                refine ready_list rfl (fun K hK => ?_) ?_
                · refine wpList_build3 rfl 28 [(2, .const (.int .u64 1)), (3, .tmp 29), (4, .tmp 32)] rfl _ rfl _ (chg_built2 _ _) ?_
                  show wpList _ _ K [] (Act.put _ (some 33) _) _
                  refine hK.out _ _ ?_; clear hK K
                  try simp only [Act.put, List.setIfInBounds_toArray, List.set_cons_zero, List.set_cons_succ]
                  refine wpAny_ready (rs := [8]) (by kernel_rfl) (by simp) ?_
                  refine ready_list rfl (fun K hK => ?_) ?_
                  · refine store_all (cs := chgV zero32 (.slice none 0 0) 1 (strOfNums (zerosB n)) (strOfNums (zerosB m))) 28 (.tmp 7) (.tmp 33) rfl rfl rfl rfl K7.out (chgV_is rfl _ _ _ _) (by rw [chgV_size rfl]; rfl) (chgV_one _ rfl _ _ _) ?_
                    intro w9 hu9
                    have R9 := bx hu9.same
                    have D9 := bx (DD.out.trans (hu9.below hbs))
                    clear hu9
                    show wpList _ _ K [] (Act.put _ none undef) w9
                    refine hK.out _ _ ?_; clear hK K
                    try simp only [Act.put, List.setIfInBounds_toArray, List.set_cons_zero, List.set_cons_succ]
                    refine wpAny_done (by kernel_rfl) ?_ _
                    go_wp2_with fail
                    go_meet
                    case rel => exact ⟨_, rfl, hbs, R9.out, D9.out⟩
                  exact AllReady.nil
                exact AllReady.nil
              exact AllReady.nil
            exact AllReady.nil
          exact AllReady.nil
        exact AllReady.nil
      exact AllReady.nil
    case rest =>
      rename World => w1
      obtain ⟨b, rfl, hb, hk, hd⟩ := hcut
      have K7 := bx hk; have D := bx hd
      clear hk hd hk1 hk2
      have hs1 := zstr_size n; have hs2 := zstr_size m
      have HBIG := bx (fun A c => bnd_big (n := n) (m := m) (p := p) A c hp1)
      have HFIT := bx (fun A c => bnd_fit (n := n) (m := m) (p := p) A c hp1)
      have HMRK := bx (bnd_mark m hm1)
      have HCE : Bx (∀ A c, (bndC n m p A c).cells.toArray = chgV zero32 (.slice A p c) 1 (strOfNums (zerosB n)) (strOfNums (zerosB m))) := ⟨fun _ _ => rfl⟩
      have HFL : Bx (∀ A c w', RowAt w' A p 32 (fun j => u8s (parB j)) → (bndC n m p A c).Full w') := ⟨fun A c w' h => ⟨rfl, h, fun j _ => rfl⟩⟩
      have HOFC : Bx (∀ A c w', RowAt w' A p 32 (fun j => u8s (parB j)) → Calls Tryd.prog 10 #[.agg (chgV zero32 (.slice A p c) 1 (strOfNums (zerosB n)) (strOfNums (zerosB m)))] w' (ObjO w' (changeO (bndC n m p A c)))) := ⟨fun A c w' h => by
        rw [← HCE.out]
        exact ofchange_any _ w' (HFL.out A c w' h)⟩
      have HOFM : Bx (∀ w', Below w.heap.size w w' → Calls Tryd.prog 13 #[.agg (markCells zero32 tagsA (strOfNums (zerosB m))).toArray] w' (ObjO w' (markO zero32 tagsA (strOfNums (zerosB m))))) := ⟨fun w' hb => ofmark_any zero32 tagsA _ w' (HM.out.below hb) rfl (by decide)⟩
      have MB3 := bx (mark_built3 tagsA (strOfNums (zerosB m)))
      generalize markO zero32 tagsA (strOfNums (zerosB m)) = mo at *
      generalize markD zero32 tagsA (strOfNums (zerosB m)) = md at *
      generalize (markCells zero32 tagsA (strOfNums (zerosB m))).toArray = MC at *
      generalize strOfNums (zerosB n) = s1 at *
      generalize strOfNums (zerosB m) = s2 at *
      clear HCE HFL
      go_wp2_with fail
      go_loopw [8] (fun i wr => ∃ (j : Nat) (v : Value), i = .int .i64 j ∧ j ≤ p ∧ OwR wr (b + 1) 24 32 v j (fun i => u8s (parB i)) ∧ wr.heap[b]? = some (.cells (chgV zero32 v 1 s1 s2) 28 (0, 0)) ∧ Below w.heap.size w wr) (fun i _ => (p - intOf i).toNat)
      case atStart => exact ⟨0, _, rfl, Nat.zero_le _, OwR.nil _ _ _ _ _, K7.out, D.out⟩
      case round =>
        rename World => wo
        obtain ⟨j, v, rfl, hj, ho, hk, hd⟩ := hrel
        have O := bx ho; have K := bx hk; have DW := bx hd
        clear ho hk hd K7 D
        have hbl := blk_lt K.out
        by_cases hlt : j < p
        · have hlt' : (j : Int) < p := by omega
          have hwj : IntKind.u8.wrap (j : Int) = j := IntWalk.u8_in _ (by omega)
          have hwj1 : IntKind.i64.wrap ((j : Int) + 1) = (j : Int) + 1 := IntWalk.i64_in _ (by omega)
          have z9 : wo.cell? ⟨b, 32, none⟩ = some v := blk_cell K.out (chgV_get rfl _ _ _ _).1
          go_wp2_with (first
            | ((with_reducible refine at_build 43 ?_); go_must (refine wpList_build2 rfl 24 [(0, .tmp 42)] rfl _ rfl (ints .u8 (parB j)) (id_built1 _) ?_))
            | ((with_reducible refine at_bs 44 ?_); go_must (refine wpList_bs1 rfl 25 24 (.tmp 43) rfl (ints .u8 (parB j)) rfl _ 32 32 Tryd.underlying25 infoId rfl (by decide) (by decide) ?_; intro w4 b4 h4 h5; have N4 := bx (show w4.heap[b4]? = some (.cells (u8s (parB j)).toArray 24 (0, 0)) by rw [← h4, ← h5]; exact blk_new _ _); have F4 := below_of_alloc h4; have O4 := bx (O.out.kept F4); have K4 := bx ((F4.block _ (blk_lt K.out)).trans K.out); have D4 := bx (DW.out.trans (F4.mono DW.out.size)); have hl4 := blk_lt K4.out; clear h4 h5 F4 z9))
            | ((with_reducible refine at_call 45 ?_); go_must (refine wpList_apR rfl (.tmp 40) (.tmp 44) 25 rfl (b + 1) 24 _ 32 32 Tryd.underlying25 infoId rfl (by decide) (by decide) _ j (fun i => u8s (parB i)) rfl O4.out _ 1 rfl N4.out rfl (oneCell_map_int _ _) (by omega) hl4 ?_; intro v5 w5 h1 h2; have O5 := bx h1; have F5 := h2 (b + 1) w4 (Below.refl _ _) (Nat.le_refl _) hl4; have K5 := bx ((F5.block _ (by omega)).trans K4.out); have D5 := bx (D4.out.trans (F5.mono (by omega))); have z9 := blk_cell K5.out (chgV_get (tree := zero32) rfl v 1 s1 s2).1; have f9 : w5.frozen? ⟨b, 32, none⟩ = false := blk_frozen 32 K5.out; obtain ⟨A9, c9, e9, _, _⟩ := O5.out.rd (fun i _ => by rw [u8s_length]; rfl); subst e9; clear h1 h2 F5)))
          have hu := upd_cell (j := 32) K5.out (.slice A9 (j + 1) c9)
          rw [(chgV_set (tree := zero32) rfl v (.slice A9 (j + 1) c9) 1 1 s1 s1 s2 s2).1] at hu
          go_roundw
          case rel => exact ⟨j + 1, _, by first | rfl | go_num, by omega, O5.out.upd hu (by omega), hu.same, D5.out.trans (hu.below hb)⟩
          case measure => simp only [intOf]; omega
        · have hlt' : ¬ (j : Int) < p := by omega
          obtain rfl : j = p := by omega
          obtain ⟨A9, c9, rfl, hp9, hr9⟩ := O.out.rd fun i _ => by rw [u8s_length]; rfl
          have P9 := bx hp9; have R9 := bx hr9
          have m1 : IntKind.i64.wrap (32 * (j : Int)) = 32 * (j : Int) := IntWalk.i64_in _ (by omega)
          clear hp9 hr9
          have HC := bx (HOFC.out A9 c9 wo R9.out)
          by_cases hbig : 16384 < 49 + 32 * j + n + m
          · have hbi : (16384 : Int) < 33 + 32 * (j : Int) + 8 + 4 + n + 4 + m := by omega
            rw [HBIG.out A9 c9 hbig] at HC
            unfold ObjO at HC
            dsimp only at HC
            clear HBIG HFIT HMRK HOFC HOFM
            go_wp2_with (first
              | ((with_reducible refine at_load 48 ?_); go_must (refine load_all 28 (.tmp 7) rfl rfl rfl K.out Tryd.underlying28 rfl (chgV_is rfl _ _ _ _) ?_)))
            refine HC.out.mono ?_
            rintro e w2 ⟨A2, c2, rfl, _, _, _, hbb⟩
            replace DW := bx (DW.out.trans ((hbb).mono DW.out.size))
            clear hbb HC
            go_wp2_with (first
              | ((with_reducible refine at_store (.tmp 9) (.tmp 50) ?_); go_must (refine store_all (cs := objC 0 (.slice A2 0 c2)) 35 (.tmp 9) (.tmp 50) rfl rfl rfl rfl (blk_new w2 _) (obj_is _ _ _ _) rfl (obj_one _ _ _ _) ?_; intro w3 hu3; have z3 : w3.cell? ⟨w2.heap.size, 1, none⟩ = some (.slice A2 0 c2) := blk_cell hu3.same rfl; have F3 := bx (((Below.refl w2.heap.size w2).alloc (Nat.le_refl _) _).trans (hu3.below (Nat.le_refl _))); clear hu3)))
            replace DW := bx (DW.out.trans ((F3.out).mono DW.out.size))
            refine (one10_any w3).mono ?_
            rintro e w4 ⟨rfl, hbb⟩
            replace DW := bx (DW.out.trans ((hbb).mono DW.out.size))
            clear hbb F3 z3
            go_wp2_with fail
            go_ret
            exact ⟨rfl, DW.out⟩
          · have hnb : 49 + 32 * j + n + m ≤ 16384 := by omega
            have hbi : ¬ (16384 : Int) < 33 + 32 * (j : Int) + 8 + 4 + n + 4 + m := by omega
            obtain ⟨d, hco, hdl, hdB, hce, hcp, hca, hct⟩ := HFIT.out A9 c9 hnb
            rw [hco] at HC
            unfold ObjO at HC
            dsimp only at HC
            have hDe : ((d.length : Int) == 33 + 32 * (j : Int) + 8 + 4 + n + 4 + m) = true := by rw [beq_iff_eq]; omega
            have HCF : Bx (∀ A c w', RdB w' A d.length d → (A = none → c = 0) → Calls Tryd.prog 18 #[.agg (objC 3 (.slice A d.length c))] w' fun e w'' => ∃ A c, e = .returned (.tuple #[.agg (chgV (idR d 0) (.slice A j c) (num (stO (cg3 d) 8)) (strOfNums (stT (cg4 d))) (strOfNums (stT (cg5 d)))), .int .i64 0]) ∧ Below w'.heap.size w' w'') := ⟨fun A c w' h hn => (chgof_any A d.length c d w' h hn hdB (by omega)).mono fun e w'' ⟨A3, c3, he, _, _, hb⟩ => by
              refine ⟨A3, c3, ?_, hb⟩
              rw [he, hce, if_pos rfl, ← hcp]
              rfl⟩
            have hidl : (idR d 0).length = 32 := idR_length _ _
            generalize idR d 0 = idd at *
            generalize num (stO (cg3 d) 8) = tmd at *
            generalize strOfNums (stT (cg4 d)) = aud at *
            generalize strOfNums (stT (cg5 d)) = txd at *
            generalize d.length = DL at *
            have hqa : ((aud.size : Int) == (n : Int)) = true := by rw [hca]; simp
            have hqb : ((txd.size : Int) == (m : Int)) = true := by rw [hct]; simp
            have HIDL := bx hidl
            have HQ := bx hco
            clear HBIG HFIT HOFC hco hce hcp hca hct hidl hdl
            go_wp2_with (first
              | ((with_reducible refine at_load 48 ?_); go_must (refine load_all 28 (.tmp 7) rfl rfl rfl K.out Tryd.underlying28 rfl (chgV_is rfl _ _ _ _) ?_)))
            refine HC.out.mono ?_
            rintro e w2 ⟨A2, c2, rfl, hr2, hn2, _, hbb⟩
            have R2 := bx hr2; have N2 := bx hn2
            replace DW := bx (DW.out.trans ((hbb).mono DW.out.size))
            replace K := bx (((hbb).block _ (blk_lt K.out)).trans K.out)
            clear hbb HC hr2 hn2
            go_upto_region 14 with (first
              | ((with_reducible refine at_store (.tmp 9) (.tmp 50) ?_); go_must (refine store_all (cs := objC 3 (.slice A2 DL c2)) 35 (.tmp 9) (.tmp 50) rfl rfl rfl rfl (blk_new w2 _) (obj_is _ _ _ _) rfl (obj_one _ _ _ _) ?_; intro w3 hu3; have K9 := bx hu3.same; have F3 := bx (((Below.refl w2.heap.size w2).alloc (Nat.le_refl _) _).trans (hu3.below (Nat.le_refl _))); clear hu3)))
            replace DW := bx (DW.out.trans ((F3.out).mono DW.out.size))
            replace K := bx (((F3.out).block _ (blk_lt K.out)).trans K.out)
            replace R2 := bx (R2.out.below F3.out)
            clear F3
            go_wp2_with (first
              | ((with_reducible refine at_load 76 ?_); go_must (refine load_all 35 (.tmp 9) rfl rfl rfl K9.out Tryd.underlying35 rfl (obj_is _ _ _ _) ?_)))
            refine (HCF.out A2 c2 w3 R2.out N2.out).mono ?_
            rintro e w4 ⟨A4, c4, rfl, hbb⟩
            replace DW := bx (DW.out.trans ((hbb).mono DW.out.size))
            replace K := bx (((hbb).block _ (blk_lt K.out)).trans K.out)
            replace K9 := bx (((hbb).block _ (blk_lt K9.out)).trans K9.out)
            clear hbb HCF R2
            go_upto_region 15 with (first
              | ((with_reducible refine at_store (.tmp 12) (.tmp 78) ?_); go_must (refine store_all (cs := chgV idd (.slice A4 j c4) tmd aud txd) 28 (.tmp 12) (.tmp 78) rfl rfl rfl rfl (blk_new w4 _) (chgV_is HIDL.out _ _ _ _) (by rw [chgV_size HIDL.out]; rfl) (chgV_one _ rfl _ _ _) ?_; intro w5 hu5; have K12 := bx hu5.same; have F5 := bx (((Below.refl w4.heap.size w4).alloc (Nat.le_refl _) _).trans (hu5.below (Nat.le_refl _))); clear hu5)))
            replace DW := bx (DW.out.trans ((F5.out).mono DW.out.size))
            replace K := bx (((F5.out).block _ (blk_lt K.out)).trans K.out)
            replace K9 := bx (((F5.out).block _ (blk_lt K9.out)).trans K9.out)
            clear F5
            have z9 : w5.cell? ⟨b, 35, none⟩ = some (.string s2) := blk_cell K.out (chgV_get rfl _ _ _ _).2.2.2
            go_wp2_with (first
              | ((with_reducible refine at_build 83 ?_); go_must (refine wpList_build2 rfl 30 [(1, .const (.string ⟨#[116, 97, 103, 115, 47, 97]⟩)), (2, .tmp 82)] rfl _ rfl MC MB3.out ?_)))
            have HOM := bx (HOFM.out w5 DW.out)
            clear z9 HOFM
            by_cases hmk : 46 + m ≤ 16384
            · have hmo := HMRK.out.1
              rw [if_pos hmk] at hmo
              rw [hmo] at HOM
              unfold ObjO at HOM
              dsimp only at HOM
              have hml := HMRK.out.2
              have hme : ((md.length : Int) == 46 + (m : Int)) = true := by rw [beq_iff_eq]; omega
              clear hml
              have hmd : decide (46 + (m : Int) ≤ 16384) = true := by simp; omega
              have hmd2 : (46 + (m : Int) ≤ 16384) := by omega
              generalize md.length = ML at *
              clear HMRK hmo
              refine HOM.out.mono ?_
              rintro e w6 ⟨A6, c6, rfl, _, _, _, hbb⟩
              replace DW := bx (DW.out.trans ((hbb).mono DW.out.size))
              replace K9 := bx (((hbb).block _ (blk_lt K9.out)).trans K9.out)
              replace K12 := bx (((hbb).block _ (blk_lt K12.out)).trans K12.out)
              clear hbb HOM K
              go_upto_region 16 with (first
                | ((with_reducible refine at_store (.tmp 14) (.tmp 85) ?_); go_must (refine store_all (cs := objC 4 (.slice A6 ML c6)) 35 (.tmp 14) (.tmp 85) rfl rfl rfl rfl (blk_new w6 _) (obj_is _ _ _ _) rfl (obj_one _ _ _ _) ?_; intro w7 hu7; have K14 := bx hu7.same; have F7 := bx (((Below.refl w6.heap.size w6).alloc (Nat.le_refl _) _).trans (hu7.below (Nat.le_refl _))); clear hu7)))
              replace DW := bx (DW.out.trans ((F7.out).mono DW.out.size))
              replace K9 := bx (((F7.out).block _ (blk_lt K9.out)).trans K9.out)
              replace K12 := bx (((F7.out).block _ (blk_lt K12.out)).trans K12.out)
              clear F7
              have y1 : w7.cell? ⟨w2.heap.size, 1, none⟩ = some (.slice A2 DL c2) := blk_cell K9.out rfl
              have y2 : w7.cell? ⟨w4.heap.size, 34, none⟩ = some (.string aud) := blk_cell K12.out (chgV_get HIDL.out _ _ _ _).2.2.1
              have y3 : w7.cell? ⟨w4.heap.size, 35, none⟩ = some (.string txd) := blk_cell K12.out (chgV_get HIDL.out _ _ _ _).2.2.2
              have y4 : w7.cell? ⟨w4.heap.size, 32, none⟩ = some (.slice A4 j c4) := blk_cell K12.out (chgV_get HIDL.out _ _ _ _).1
              have y5 : w7.cell? ⟨w6.heap.size, 1, none⟩ = some (.slice A6 ML c6) := blk_cell K14.out rfl
              go_wp2_with fail
              refine (one10_any w7).mono ?_
              rintro e w8 ⟨rfl, hbb⟩
              replace DW := bx (DW.out.trans ((hbb).mono DW.out.size))
              clear hbb y1 y2 y3 y4 y5
              go_wp2_with fail
              go_ret
              exact ⟨rfl, DW.out⟩
            · exact absurd (by omega) hmk
end Go.Proofs.YtoompcgdhokdlaaDoor
