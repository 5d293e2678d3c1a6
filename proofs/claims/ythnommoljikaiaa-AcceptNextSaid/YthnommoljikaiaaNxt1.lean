/- Bodies of manifests: rows of structs that read; slices.Equal and manifest.Same of what is alike. -/
import Derived.Test.YthnommoljikaiaaAid2
import Derived.Test.YthnommoljikaiaaAgg
import Derived.Test.YthnommoljikaiaaBuf1
import Derived.ChangeKeysEq
set_option linter.unusedSimpArgs false
set_option linter.unusedVariables false
namespace Go.Proofs.Ythnommoljikaiaa
open Go.RowKit

/-- n structs of s cells each lie behind A. -/
def RowAt (w : World) (A : Option Addr) (n s : Nat) (f : Nat → List Value) : Prop := 0 < n → ∃ b o, A = some ⟨b, o, none⟩ ∧ b < w.heap.size ∧ ∀ j, j < n → w.rangeAt b (o + j * s) (f j)
theorem range_below {w w' : World} {b o : Nat} {l : List Value} (h : w.rangeAt b o l) (hb : Below w.heap.size w w') (hl : b < w.heap.size) : w'.rangeAt b o l := fun j v hv => (hb.cell (p := ⟨b, o + j, none⟩) hl).trans (h j v hv)
theorem RowAt.below {w w' : World} {A : Option Addr} {n s : Nat} {f : Nat → List Value} (h : RowAt w A n s f) (hb : Below w.heap.size w w') : RowAt w' A n s f := fun hn => by
  obtain ⟨b, o, e, hl, hc⟩ := h hn
  exact ⟨b, o, e, Nat.lt_of_lt_of_le hl hb.size, fun j hj => range_below (hc j hj) hb hl⟩
theorem RowAt.at {w : World} {A : Option Addr} {n s : Nat} {f : Nat → List Value} (h : RowAt w A n s f) {j : Nat} (hj : j < n) : ∃ b o, A = some ⟨b, o, none⟩ ∧ b < w.heap.size ∧ ∀ w', Below w.heap.size w w' → w'.rangeAt b (o + j * s) (f j) := by
  obtain ⟨b, o, e, hl, hc⟩ := h (by omega)
  exact ⟨b, o, e, hl, fun w' hb => range_below (hc j hj) hb hl⟩
theorem quietAt_load_row {P : Program} {o : Oper} {a : Act} {C : World → Prop} {w : World} (ty : TypeId) (x : Operand) (ho : o.op = .load ty x) {b off : Nat} (hx : a.eval x = .pointer (some ⟨b, off, none⟩)) {l : List Value} {d : TypeDesc} (hc : w.rangeAt b off l)
    (hu : P.underlying ty = some d) (hd : d.isRow = true) (hi : (P.info? ty).map (·.size) = some l.length) : o.quietAt P a C w (.agg l.toArray) := by
  unfold Oper.quietAt execOp
  simp only [ho, hx, Instr.loadAt, Instr.sureAddr, Sem.run_bind, Sem.run_pure, Result.andThen_ok, run_loadVar_mid w b off ty _ d hc hu hd hi]
  exact ⟨rfl, rfl⟩
def u8s (l : List Int) : List Value := l.map (Value.int .u8)
theorem u8s_length (l : List Int) : (u8s l).length = l.length := by simp [u8s]
/-- A blob: 48 numbers. -/
theorem blob_eqIn (l : List Int) (h : l.length = 48) (w : World) : (Op.equalIn 10000 160 (.agg (u8s l).toArray) (.agg (u8s l).toArray)).run Try.prog w = .ok true w := by
  show (Op.equalIn 10000 160 (.agg (ints .u8 l)) (.agg (ints .u8 l))).run Try.prog w = .ok true w
  have p1 : (part 113 (ints .u8 l) 0).run Try.prog w = .ok (.agg (ints .u8 (l.take 16))) w := by
    have := part_agg (P := Try.prog) (xs := ints .u8 l) (off := 0) (n := 16) Try.underlying113 rfl (by kernel_rfl) w
    rw [ints_extract, List.drop_zero] at this
    exact this
  have p2 : (part 82 (ints .u8 l) 16).run Try.prog w = .ok (.agg (ints .u8 (l.drop 16))) w := by
    have := part_agg (P := Try.prog) (xs := ints .u8 l) (off := 16) (n := 32) Try.underlying82 rfl (by kernel_rfl) w
    rw [ints_extract, List.take_of_length_le (by omega)] at this
    exact this
  have e1 := eq_ints Try.underlying113 Try.underlying5 (by kernel_rfl) 9997 (l.take 16) (l.take 16) (by rw [List.length_take]; omega) (by rw [List.length_take]; omega) w
  have e2 := eq_ints Try.underlying82 Try.underlying5 (by kernel_rfl) 9997 (l.drop 16) (l.drop 16) (by rw [List.length_drop]; omega) (by rw [List.length_drop]; omega) w
  have H : (Op.equalIn 10000 160 (.agg (ints .u8 l)) (.agg (ints .u8 l))).run Try.prog w = .ok ((decide (l.take 16 = l.take 16)) && ((decide (l.drop 16 = l.drop 16)) && true)) w := by
    rw [eqIn_struct Try.underlying160 Try.stoodInHeld160 9999]
    refine eqf_step (by decide) p1 p1 e1 ?_
    exact eqf_step (by decide) p2 p2 e2 eqf_nil
  rw [H]
  simp
/-- A reference: a text, and 32 numbers. -/
def refCells (s : ByteArray) (id : List Int) : List Value := .string s :: u8s id
theorem ref_ext (s : ByteArray) (id : List Int) (h : id.length = 32) : (refCells s id).toArray.extract 1 (1 + 32) = ints .u8 id := by
  apply Array.toList_inj.1
  rw [Array.toList_extract]
  show List.extract (.string s :: u8s id) 1 (1 + 32) = _
  rw [List.extract_eq_take_drop]
  show ((u8s id).take 32) = _
  rw [List.take_of_length_le (by rw [u8s_length]; omega), ints_toList]
  rfl
theorem ref_eqIn (s : ByteArray) (id : List Int) (h : id.length = 32) (w : World) : (Op.equalIn 10000 149 (.agg (refCells s id).toArray) (.agg (refCells s id).toArray)).run Try.prog w = .ok true w := by
  have p1 : (part 9 (refCells s id).toArray 0).run Try.prog w = .ok (.string s) w := part_str Try.underlying9 rfl w
  have p2 : (part 82 (refCells s id).toArray 1).run Try.prog w = .ok (.agg (ints .u8 id)) w := by
    have := part_agg (P := Try.prog) (xs := (refCells s id).toArray) (off := 1) (n := 32) Try.underlying82 rfl (by kernel_rfl) w
    rw [ref_ext s id h] at this
    exact this
  have e1 := run_equalIn_string (P := Try.prog) (w := w) 9998 9 s s Try.underlying9
  have e2 := eq_ints Try.underlying82 Try.underlying5 (by kernel_rfl) 9997 id id h h w
  have H : (Op.equalIn 10000 149 (.agg (refCells s id).toArray) (.agg (refCells s id).toArray)).run Try.prog w = .ok ((s.toList == s.toList) && ((decide (id = id)) && true)) w := by
    rw [eqIn_struct Try.underlying149 Try.stoodInHeld149 9999]
    refine eqf_step (by decide) p1 p1 e1 ?_
    exact eqf_step (by decide) p2 p2 e2 eqf_nil
  rw [H]
  simp
set_option maxRecDepth 100000 in
set_option maxHeartbeats 800000 in
theorem blobseq_any (A : Option Addr) (n cap : Nat) (f : Nat → List Value) (A2 : Option Addr) (cap2 : Nat) (w : World) (h1 : RowAt w A n 48 f) (h2 : RowAt w A2 n 48 f) (hn : n ≤ 1099511627776) (hl : ∀ j, j < n → (f j).length = 48)
    (he : ∀ j, j < n → ∀ w, (Op.equalIn 10000 160 (.agg (f j).toArray) (.agg (f j).toArray)).run Try.prog w = .ok true w) :
    Calls Try.prog 76 #[.slice A n cap, .slice A2 n cap2] w fun e w' => e = .returned (.bool true) ∧ Below w.heap.size w w' := by
  have R1 := bx h1; have R2 := bx h2; have HL := bx hl; have HE := bx he
  clear h1 h2 hl he
  go_enter Try.func76, Try.ntmps76
  go_wp2_with fail
  go_loopw [13] (fun i wr => ∃ j : Nat, j ≤ n ∧ i = .int .i64 j ∧ Below w.heap.size w wr) (fun i _ => (n - intOf i).toNat)
  case atStart => exact ⟨0, Nat.zero_le _, rfl, Below.refl _ _⟩
  case round =>
    obtain ⟨j, hj, rfl, hb⟩ := hrel
    have B := bx hb
    clear hb
    by_cases hlt : j < n
    · have hlt' : (j : Int) < n := by omega
      obtain ⟨b1, o1, rfl, _, hr1⟩ := (R1.out.below B.out).at hlt
      obtain ⟨b2, o2, rfl, _, hr2⟩ := (R2.out.below B.out).at hlt
      have HR1 := bx hr1; have HR2 := bx hr2
      have HI : Bx ((Try.prog.info? 160).map (·.size) = some (f j).length) := ⟨by rw [HL.out j hlt]; kernel_rfl⟩
      have hne := HE.out j hlt
      generalize f j = fj at *
      clear hr1 hr2 R1 R2 HL HE
      go_wp2_with fail
      try simp only [Act.put]
      refine region_quietC (fun w' => Below wr.heap.size wr w') (by kernel_rfl) (by kernel_rfl) ((Below.refl _ _).drew) ?_
      repeat (first
        | go_big_quiet_skip
        | (refine quiet_take (v := .agg fj.toArray) 19 rfl (by kernel_rfl) (fun w' hw' => quietAt_load_row 160 (.tmp 18) rfl rfl (HR1.out w' hw') Try.underlying160 rfl HI.out) ?_; try simp only [List.setIfInBounds_toArray, List.set_cons_zero, List.set_cons_succ])
        | (refine quiet_take (v := .agg fj.toArray) 23 rfl (by kernel_rfl) (fun w' hw' => quietAt_load_row 160 (.tmp 22) rfl rfl (HR2.out w' hw') Try.underlying160 rfl HI.out) ?_; try simp only [List.setIfInBounds_toArray, List.set_cons_zero, List.set_cons_succ])
        | (go_big_quiet_want; go_big_quiet_op; go_big_quiet_on)
        | (refine quiet_take (v := ?_) _ rfl (by kernel_rfl) ?_ ?_; rotate_left 1; (focus (first | (intro w' hw'; clear hw'; unfold Oper.quietAt; go_simp; done) | (intro w' hw'; clear hw'; unfold Oper.quietAt; go_simp; with_reducible rfl) | (intro w' hw'; skip; unfold Oper.quietAt; go_simp; first | done | with_reducible rfl))); try simp only [List.setIfInBounds_toArray, List.set_cons_zero, List.set_cons_succ]))
      refine wpQuiet_nil ?_
      intro w1 hw1
      have B2 := bx (B.out.trans (hw1.mono B.out.size))
      clear hw1
      go_wp2_with fail
      go_roundw
      case rel => exact ⟨j + 1, by omega, by first | rfl | go_num, B2.out⟩
      case measure => simp only [intOf]; omega
    · have hlt' : ¬ (j : Int) < n := by omega
      go_wp2_with fail
      go_ret
      exact ⟨rfl, B.out⟩
set_option maxRecDepth 100000 in
set_option maxHeartbeats 800000 in
theorem refseq_any (A : Option Addr) (n cap : Nat) (f : Nat → List Value) (A2 : Option Addr) (cap2 : Nat) (w : World) (h1 : RowAt w A n 33 f) (h2 : RowAt w A2 n 33 f) (hn : n ≤ 1099511627776) (hl : ∀ j, j < n → (f j).length = 33)
    (he : ∀ j, j < n → ∀ w, (Op.equalIn 10000 149 (.agg (f j).toArray) (.agg (f j).toArray)).run Try.prog w = .ok true w) :
    Calls Try.prog 77 #[.slice A n cap, .slice A2 n cap2] w fun e w' => e = .returned (.bool true) ∧ Below w.heap.size w w' := by
  have R1 := bx h1; have R2 := bx h2; have HL := bx hl; have HE := bx he
  clear h1 h2 hl he
  go_enter Try.func77, Try.ntmps77
  go_wp2_with fail
  go_loopw [13] (fun i wr => ∃ j : Nat, j ≤ n ∧ i = .int .i64 j ∧ Below w.heap.size w wr) (fun i _ => (n - intOf i).toNat)
  case atStart => exact ⟨0, Nat.zero_le _, rfl, Below.refl _ _⟩
  case round =>
    obtain ⟨j, hj, rfl, hb⟩ := hrel
    have B := bx hb
    clear hb
    by_cases hlt : j < n
    · have hlt' : (j : Int) < n := by omega
      obtain ⟨b1, o1, rfl, _, hr1⟩ := (R1.out.below B.out).at hlt
      obtain ⟨b2, o2, rfl, _, hr2⟩ := (R2.out.below B.out).at hlt
      have HR1 := bx hr1; have HR2 := bx hr2
      have HI : Bx ((Try.prog.info? 149).map (·.size) = some (f j).length) := ⟨by rw [HL.out j hlt]; kernel_rfl⟩
      have hne := HE.out j hlt
      generalize f j = fj at *
      clear hr1 hr2 R1 R2 HL HE
      go_wp2_with fail
      try simp only [Act.put]
      refine region_quietC (fun w' => Below wr.heap.size wr w') (by kernel_rfl) (by kernel_rfl) ((Below.refl _ _).drew) ?_
      repeat (first
        | go_big_quiet_skip
        | (refine quiet_take (v := .agg fj.toArray) 19 rfl (by kernel_rfl) (fun w' hw' => quietAt_load_row 149 (.tmp 18) rfl rfl (HR1.out w' hw') Try.underlying149 rfl HI.out) ?_; try simp only [List.setIfInBounds_toArray, List.set_cons_zero, List.set_cons_succ])
        | (refine quiet_take (v := .agg fj.toArray) 23 rfl (by kernel_rfl) (fun w' hw' => quietAt_load_row 149 (.tmp 22) rfl rfl (HR2.out w' hw') Try.underlying149 rfl HI.out) ?_; try simp only [List.setIfInBounds_toArray, List.set_cons_zero, List.set_cons_succ])
        | (go_big_quiet_want; go_big_quiet_op; go_big_quiet_on)
        | (refine quiet_take (v := ?_) _ rfl (by kernel_rfl) ?_ ?_; rotate_left 1; (focus (first | (intro w' hw'; clear hw'; unfold Oper.quietAt; go_simp; done) | (intro w' hw'; clear hw'; unfold Oper.quietAt; go_simp; with_reducible rfl) | (intro w' hw'; skip; unfold Oper.quietAt; go_simp; first | done | with_reducible rfl))); try simp only [List.setIfInBounds_toArray, List.set_cons_zero, List.set_cons_succ]))
      refine wpQuiet_nil ?_
      intro w1 hw1
      have B2 := bx (B.out.trans (hw1.mono B.out.size))
      clear hw1
      go_wp2_with fail
      go_roundw
      case rel => exact ⟨j + 1, by omega, by first | rfl | go_num, B2.out⟩
      case measure => simp only [intOf]; omega
    · have hlt' : ¬ (j : Int) < n := by omega
      go_wp2_with fail
      go_ret
      exact ⟨rfl, B.out⟩
/-- A pack: its key, how many, and its blobs. -/
structure PackA where
  key : List Int
  cnt : Int
  A : Option Addr
  n : Nat
  cap : Nat
  bl : Nat → List Int
def PackA.cells (p : PackA) : List Value := u8s p.key ++ [.int .i64 p.cnt, .slice p.A p.n p.cap]
def PackA.Full (p : PackA) (w : World) : Prop := p.key.length = 32 ∧ RowAt w p.A p.n 48 (fun k => u8s (p.bl k)) ∧ ∀ k, k < p.n → (p.bl k).length = 48
theorem PackA.Full.below {p : PackA} {w w' : World} (h : p.Full w) (hb : Below w.heap.size w w') : p.Full w' := ⟨h.1, h.2.1.below hb, h.2.2⟩
theorem PackA.length {p : PackA} (h : p.key.length = 32) : p.cells.length = 34 := by simp [PackA.cells, u8s_length, h]
theorem PackA.get {p : PackA} (h : p.key.length = 32) : p.cells.toArray[32]? = some (.int .i64 p.cnt) ∧ p.cells.toArray[33]? = some (.slice p.A p.n p.cap) ∧ p.cells.toArray.extract 0 (0 + 32) = ints .u8 p.key := by
  have e : (u8s p.key).length = 32 := by rw [u8s_length, h]
  refine ⟨?_, ?_, ?_⟩
  · rw [List.getElem?_toArray, PackA.cells, List.getElem?_append_right (by omega), e]; rfl
  · rw [List.getElem?_toArray, PackA.cells, List.getElem?_append_right (by omega), e]; rfl
  · apply Array.toList_inj.1
    rw [Array.toList_extract, List.extract_eq_take_drop, ints_toList]
    show (p.cells.drop 0).take 32 = _
    rw [List.drop_zero, PackA.cells, List.take_append_of_le_length (by omega), List.take_of_length_le (by omega)]
    rfl
theorem PackA.one {p : PackA} : ∀ v ∈ p.cells.toArray.toList, v.oneCell' = true := by
  intro v hv
  simp only [PackA.cells, u8s, List.mem_append, List.mem_map, List.mem_cons, List.not_mem_nil, or_false] at hv
  rcases hv with ⟨x, _, rfl⟩ | rfl | rfl <;> rfl
set_option maxRecDepth 100000 in
set_option maxHeartbeats 800000 in
theorem packsame_any (p : PackA) (w : World) (hp : p.Full w) (hn : p.n ≤ 1099511627776) :
    Calls Try.prog 75 #[.agg p.cells.toArray, .agg p.cells.toArray] w fun e w' => e = .returned (.bool true) ∧ Below w.heap.size w w' := by
  obtain ⟨w0, hw0⟩ : ∃ w0, w0 = (w.alloc (.cells p.cells.toArray 155)).alloc (.cells p.cells.toArray 155) := ⟨_, rfl⟩
  have K0 : Bx (w0.heap[w.heap.size]? = some (.cells p.cells.toArray 155 (0, 0))) := ⟨by rw [hw0]; exact heap_alloc2_old w _ _⟩
  have K1 : Bx (w0.heap[w.heap.size + 1]? = some (.cells p.cells.toArray 155 (0, 0))) := ⟨by rw [hw0]; exact heap_alloc2_new w _ _⟩
  have B0 : Bx (Below w.heap.size w w0) := ⟨by rw [hw0]; exact ((Below.refl _ _).alloc (Nat.le_refl _) _).alloc (by simp) _⟩
  have HF := bx (hp.below B0.out)
  have hk := PackA.get hp.1
  have z0 := blk_cell K0.out hk.1; have z1 := blk_cell K0.out hk.2.1; have z2 := blk_cell K1.out hk.1; have z3 := blk_cell K1.out hk.2.1
  have HX := bx hk.2.2
  have HSZ : Bx (0 + 32 ≤ p.cells.toArray.size) := ⟨by simp [PackA.length hp.1]⟩
  have hce : ∀ w, (Op.equalIn 10000 152 (.agg (ints .u8 p.key)) (.agg (ints .u8 p.key))).run Try.prog w = .ok true w := fun w => by
    rw [eq_ints Try.underlying152 Try.underlying5 (by kernel_rfl) 9998 _ _ hp.1 hp.1 w]; simp
  have HW := bx hw0
  have HE := bx (blobseq_any p.A p.n p.cap (fun k => u8s (p.bl k)) p.A p.cap w0 HF.out.2.1 HF.out.2.1 hn (fun j hj => by rw [u8s_length]; exact hp.2.2 j hj) (fun j hj => blob_eqIn (p.bl j) (hp.2.2 j hj)))
  clear hk hp hw0
  generalize p.cells.toArray = CC at *
  generalize ints .u8 p.key = KK at *
  go_enter Try.func75, Try.ntmps75
  go_upto_region 1 with fail
  rw [← HW.out]
  clear HW
  go_wp2_with (first
    | ((with_reducible refine at_load 6 ?_); go_must (refine wpList_load_agg rfl 152 (.tmp 5) rfl w.heap.size 0 rfl 155 CC 32 _ K0.out Try.underlying152 rfl (by kernel_rfl) HSZ.out KK HX.out ?_))
    | ((with_reducible refine at_load 8 ?_); go_must (refine wpList_load_agg rfl 152 (.tmp 7) rfl (w.heap.size + 1) 0 rfl 155 CC 32 _ K1.out Try.underlying152 rfl (by kernel_rfl) HSZ.out KK HX.out ?_)))
  refine HE.out.mono ?_
  rintro e w1 ⟨rfl, hb⟩
  have B1 := bx (B0.out.trans (hb.mono B0.out.size))
  clear hb
  go_wp2_with fail
  go_ret
  exact ⟨rfl, B1.out⟩
end Go.Proofs.Ythnommoljikaiaa
