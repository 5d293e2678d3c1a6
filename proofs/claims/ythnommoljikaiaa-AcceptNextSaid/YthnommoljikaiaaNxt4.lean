/- coffretlaw17.Own: it comes to an end, and tells 1 of a body that is not too great alone. -/
import Derived.Test.YthnommoljikaiaaNxt3
set_option linter.unusedSimpArgs false
set_option linter.unusedVariables false
namespace Go.Proofs.Ythnommoljikaiaa
open Go.RowKit

/-- The world within Own: what came in, the result's block, and what is made. -/
def OwnW (w wr : World) (CB : Array Value) (g e wi st : Int) (rv pv : Value) : Prop :=
  Below w.heap.size w wr ∧ wr.heap[w.heap.size]? = some (.cells CB 69 (0, 0)) ∧ wr.heap[w.heap.size + 1]? = some (.cells bodyZ 73 (0, 0)) ∧ wr.heap[w.heap.size + 2]? = some (.cells (bodyC g e wi st rv pv) 73 (0, 0))
section
variable {w wr w' w9 : World} {CB : Array Value} {g e wi st : Int} {rv pv : Value}
theorem OwnW.step (h : OwnW w wr CB g e wi st rv pv) (hb : Below (w.heap.size + 3) wr w') : OwnW w w' CB g e wi st rv pv :=
  ⟨h.1.trans (hb.mono (by omega)), (hb.block _ (by omega)).trans h.2.1, (hb.block _ (by omega)).trans h.2.2.1, (hb.block _ (by omega)).trans h.2.2.2⟩
theorem OwnW.lt (h : OwnW w wr CB g e wi st rv pv) : w.heap.size + 3 ≤ wr.heap.size := by
  have := blk_lt h.2.2.2
  omega
theorem OwnW.store4 (h : OwnW w wr CB g e wi st rv pv) (hb : Below (w.heap.size + 3) wr w9) {v : Value} (hu : Upd w9 w' (w.heap.size + 2) (.cells ((bodyC g e wi st rv pv).setIfInBounds 4 v) 73 (0, 0))) : OwnW w w' CB g e wi st v pv := by
  have h9 := h.step hb
  exact ⟨h9.1.trans (hu.below (by omega)), hu.blk h9.2.1 (by omega), hu.blk h9.2.2.1 (by omega), hu.same⟩
theorem OwnW.store5 (h : OwnW w wr CB g e wi st rv pv) (hb : Below (w.heap.size + 3) wr w9) {v : Value} (hu : Upd w9 w' (w.heap.size + 2) (.cells ((bodyC g e wi st rv pv).setIfInBounds 5 v) 73 (0, 0))) : OwnW w w' CB g e wi st rv v := by
  have h9 := h.step hb
  exact ⟨h9.1.trans (hu.below (by omega)), hu.blk h9.2.1 (by omega), hu.blk h9.2.2.1 (by omega), hu.same⟩
end
theorem at_bs {P : Program} {ops : Array Oper} {rest : List Oper} {t T : TypeId} {n : Nat} {x : Array (Nat × Operand)} {pos : String} {after : Array Edge} {gd : Option (Nat × Bool)} {a : Act} {w : World} {Q : Exit → Act → World → Prop} (d : Nat)
    (h : wpList P ops Q ({ dst := some d, op := .buildSlice t n x, type := T, pos := pos, after := after, guard := gd } :: rest) a w) : wpList P ops Q ({ dst := some d, op := .buildSlice t n x, type := T, pos := pos, after := after, guard := gd } :: rest) a w := h
theorem row_rd {w : World} {b : Nat} {l : List Int} {T : TypeId} (h : w.heap[b]? = some (.cells (u8s l).toArray T (0, 0))) {n : Nat} (hn : l.length = n) : RdB w (some ⟨b, 0, none⟩) n l :=
  ⟨hn, fun _ => ⟨b, 0, rfl, blk_lt h, fun j hj => by rw [Nat.zero_add]; exact blk_int (k := .u8) (l := l) h j (by omega)⟩⟩
/-- What Own tells. -/
def OwnO (w : World) (b : BodyA) (e : Ending) (w' : World) : Prop := ∃ A1 n1 c1 A2 n2 c2 few, e = .returned (.tuple #[.agg (bodyC b.g b.e b.wr b.st (.slice A1 n1 c1) (.slice A2 n2 c2)), .int .i64 few]) ∧ (few = 0 ∨ (few = 1 ∧ b.Few)) ∧ Below w.heap.size w w'
theorem one_ss (s t : ByteArray) : ∀ u ∈ (#[.string s, .string t] : Array Value).toList, u.oneCell' = true := by
  intro u hu
  simp only [List.mem_cons, List.not_mem_nil, or_false] at hu
  rcases hu with rfl | rfl <;> rfl
theorem one_pk (s : ByteArray) (c : Int) (A : Option Addr) (n cap : Nat) : ∀ u ∈ (#[.string s, .int .i64 c, .slice A n cap] : Array Value).toList, u.oneCell' = true := by
  intro u hu
  simp only [List.mem_cons, List.not_mem_nil, or_false] at hu
  rcases hu with rfl | rfl | rfl <;> rfl
theorem pk_is (s : ByteArray) (c : Int) (v : Value) : (Try.prog.info? 158).map (·.size) = some (#[.string s, .int .i64 c, v] : Array Value).size := by kernel_rfl
set_option maxRecDepth 100000 in
set_option maxHeartbeats 4000000 in
theorem own17_any (b : BodyA) (w : World) (hF : b.Full w) : Calls Try.prog 36 #[.agg b.cells] w (OwnO w b) := by
  obtain ⟨g, ep, wi, st, RA, rn, rc, rs, PA, pn, pc, pk⟩ := b
  obtain ⟨hF1, hF2, hF3, hF4⟩ := hF
  dsimp only at hF1 hF2 hF3 hF4
  have HOUT : Bx (∀ A1 n1 c1 A2 n2 c2 (few : Int) w', (few = 0 ∨ (few = 1 ∧ (rn ≤ 12 ∧ pn ≤ 16 ∧ ∀ j, j < pn → (pk j).n ≤ 60))) → Below w.heap.size w w' → OwnO w ⟨g, ep, wi, st, RA, rn, rc, rs, PA, pn, pc, pk⟩ (.returned (.tuple #[.agg (bodyC g ep wi st (.slice A1 n1 c1) (.slice A2 n2 c2)), .int .i64 few])) w') := ⟨fun A1 n1 c1 A2 n2 c2 few w' h1 h2 => ⟨A1, n1, c1, A2, n2, c2, few, rfl, h1, h2⟩⟩
  show Calls Try.prog 36 #[.agg (bodyC g ep wi st (.slice RA rn rc) (.slice PA pn pc))] w _
  generalize OwnO w ⟨g, ep, wi, st, RA, rn, rc, rs, PA, pn, pc, pk⟩ = OUT at *
  obtain ⟨CB, hCB⟩ : ∃ CB, bodyC g ep wi st (.slice RA rn rc) (.slice PA pn pc) = CB := ⟨_, rfl⟩
  have hcb : CB[0]? = some (.int .u64 g) ∧ CB[1]? = some (.int .u64 ep) ∧ CB[2]? = some (.int .i64 wi) ∧ CB[3]? = some (.int .u64 st) ∧ CB[4]? = some (.slice RA rn rc) ∧ CB[5]? = some (.slice PA pn pc) := by rw [← hCB]; exact ⟨rfl, rfl, rfl, rfl, rfl, rfl⟩
  rw [hCB]
  clear hCB
  obtain ⟨w0, hw0⟩ : ∃ w0, w0 = (w.alloc (.cells CB 69)).alloc (.cells bodyZ 73) := ⟨_, rfl⟩
  have B0 : Bx (Below w.heap.size w w0) := ⟨by rw [hw0]; exact ((Below.refl _ _).alloc (Nat.le_refl _) _).alloc (by simp) _⟩
  have K0 : Bx (w0.heap[w.heap.size]? = some (.cells CB 69 (0, 0))) := ⟨by rw [hw0]; exact heap_alloc2_old w _ _⟩
  have K1 : Bx (w0.heap[w.heap.size + 1]? = some (.cells bodyZ 73 (0, 0))) := ⟨by rw [hw0]; exact heap_alloc2_new w _ _⟩
  have SZ : Bx (w0.heap.size = w.heap.size + 2) := ⟨by rw [hw0]; simp⟩
  have HCB := bx hcb
  have z0 := blk_cell K0.out hcb.1; have z1 := blk_cell K0.out hcb.2.1; have z2 := blk_cell K0.out hcb.2.2.1; have z3 := blk_cell K0.out hcb.2.2.2.1
  have LIT : Bx ((w.alloc (.cells CB 69)).alloc (.cells #[.int .u64 0, .int .u64 0, .int .i64 0, .int .u64 0, .slice none 0 0, .slice none 0 0] 73) = w0) := ⟨hw0.symm⟩
  have HF1 := bx hF1; have HF2 := bx hF2; have HF3 := bx hF3; have HF4 := bx hF4
  clear hw0 hcb hF1 hF2 hF3 hF4
  by_cases hfew : rn ≤ 12 ∧ pn ≤ 16
  · have h1 : ¬ (12 : Int) < rn := by omega
    have h2 : ¬ (16 : Int) < pn := by omega
    obtain ⟨hrn, hpn⟩ := hfew
    go_enter Try.func36, Try.ntmps36
    go_upto_region 1 with fail
    rw [LIT.out]
    clear LIT
    go_upto_region 2 with (first
      | ((with_reducible refine at_build 18 ?_); go_must (refine wpList_build2 rfl 73 [(0, .tmp 11), (1, .tmp 13), (2, .tmp 15), (3, .tmp 17)] rfl _ rfl _ (rbody_built g ep wi st) ?_))
      | ((with_reducible refine at_store (.tmp 4) (.tmp 18) ?_); go_must (refine store_all (cs := bodyC g ep wi st (.slice none 0 0) (.slice none 0 0)) 73 (.tmp 4) (.tmp 18) rfl rfl rfl rfl (blk_new w0 _) (rbody_is _ _ _ _ _ _ _ _ _ _) rfl (body_one _ _ _ _ _ _ _ _ _ _) ?_; intro w1 hu1; have C1 := bx hu1.same; have D1 := bx (((Below.refl w0.heap.size w0).alloc (Nat.le_refl _) _).trans (hu1.below (Nat.le_refl _))); clear hu1)))
    have OW : Bx (OwnW w w1 CB g ep wi st (.slice none 0 0) (.slice none 0 0)) := ⟨B0.out.trans (D1.out.mono B0.out.size), (D1.out.block _ (blk_lt K0.out)).trans K0.out, (D1.out.block _ (blk_lt K1.out)).trans K1.out, by have := C1.out; rw [SZ.out] at this; exact this⟩
    rw [SZ.out]
    have y4 := blk_cell OW.out.2.1 HCB.out.2.2.2.2.1
    have y5 := blk_cell OW.out.2.1 HCB.out.2.2.2.2.2
    clear C1 D1 K0 K1 B0 z0 z1 z2 z3 SZ
    go_wp2_with fail
    clear y4 y5 h1 h2
    go_loopw [5] (fun i wr => ∃ (j : Nat) (rv : Value), j ≤ rn ∧ i = .int .i64 j ∧ OwnW w wr CB g ep wi st rv (.slice none 0 0) ∧ RowO wr (w.heap.size + 3) 151 2 rv j) (fun i _ => (rn - intOf i).toNat)
    case atStart => exact ⟨0, _, Nat.zero_le _, rfl, OW.out, RowO.nil _ _ _ _⟩
    case round =>
      obtain ⟨j, rv, hj, rfl, how, hro⟩ := hrel
      clear OW
      have OW := bx how; have RO := bx hro; have L3 := bx how.lt
      clear how hro
      by_cases hlt : j < rn
      · have hlt' : (j : Int) < rn := by omega
        obtain ⟨b1, o1, rfl, hb1, hr1⟩ := HF1.out.at hlt
        have hid := HF2.out j hlt
        generalize (rs j).1 = s at *
        generalize (rs j).2 = id at *
        have HC : Bx (∀ w', Below w.heap.size w w' → w'.heap[w.heap.size]? = some (.cells CB 69 (0, 0)) → w'.cell? ⟨w.heap.size, 4, none⟩ = some (.slice (some ⟨b1, o1, none⟩) rn rc) ∧ w'.cell? ⟨b1, o1 + j * 33, none⟩ = some (.string s) ∧ (convert 22 9 (.slice (some ⟨b1, o1 + j * 33 + 1, none⟩) 32 32)).run Try.prog w' = .ok (.string (strOfNums id)) w') := ⟨fun w' hb hk => by
          have hg := hr1 w' hb
          refine ⟨blk_cell hk HCB.out.2.2.2.2.1, hg 0 _ rfl, ?_⟩
          have h9 := row_rdB (pre := [.string s]) (id := id) (post := []) hg (by rw [List.append_nil]; rfl) (Nat.lt_of_lt_of_le hb1 hb.size)
          rw [hid] at h9
          exact str_of h9 32⟩
        have sl := arr_slice_all (P := Try.prog) (t := 82) Try.underlying82 Try.sizeOf5 b1 (o1 + j * 33 + 1)
        obtain ⟨y1, y2, _⟩ := HC.out wr OW.out.1 OW.out.2.1
        generalize strOfNums id = t at *
        clear hr1 hid
        by_cases hs : 200 < s.size
        · have hs' : (200 : Int) < s.size := by omega
          go_wp2_with (first
            | ((with_reducible refine at_load 45 ?_); go_must (refine load_all 73 (.tmp 4) rfl rfl rfl OW.out.2.2.2 Try.underlying73 rfl (by kernel_rfl) ?_))
            | ((with_reducible refine at_store (.tmp 2) (.tmp 45) ?_); go_must (obtain ⟨A1, c1, rfl⟩ := RO.out.form; refine store_all (cs := bodyC g ep wi st (.slice A1 j c1) (.slice none 0 0)) 73 (.tmp 2) (.tmp 45) rfl rfl rfl rfl OW.out.2.2.1 (rbody_is _ _ _ _ _ _ _ _ _ _) rfl (body_one _ _ _ _ _ _ _ _ _ _) ?_; intro w9 hu9; have B9 := bx (OW.out.1.trans (hu9.below (by omega))); have R9 := bx hu9.same; clear hu9)))
          refine bodyPost_ret (results_ct (cs := bodyC g ep wi st (.slice A1 j c1) (.slice none 0 0)) rfl _ _ (w.heap.size + 1) 73 _ _ rfl rfl R9.out Try.underlying73 rfl (rbody_is _ _ _ _ _ _ _ _ _ _)) rfl ?_
          exact HOUT.out _ _ _ _ _ _ _ _ (.inl rfl) B9.out
        · have hs' : ¬ (200 : Int) < s.size := by omega
          go_wp2_with fail
          clear y1 y2
          have cR : wr.drew.cell? ⟨w.heap.size + 2, 4, none⟩ = some rv := blk_cell (show wr.drew.heap[w.heap.size + 2]? = _ from OW.out.2.2.2) rfl
          have hS0 : Below (w.heap.size + 2) wr wr.drew := (Below.refl _ _).drew
          refine wp_region_held_drew (S := (fun w' => Below (w.heap.size + 2) wr w')) (by kernel_rfl) hS0 (fun hS => ?_)
          refine takeH (i := 0) (d := 46) (v := ?_) rfl rfl (by kernel_rfl) (by kernel_rfl) (by kernel_rfl) (fun _ _ _ h => h) (Or.inl ⟨by kernel_rfl, ?_⟩) hS ?_; rotate_left 1; (focus ((intro w' hS'; clear hS'; go_simp; try with_reducible rfl); done))
          try simp only [List.setIfInBounds_toArray, List.set_cons_zero, List.set_cons_succ]
          refine takeH (i := 2) (d := 48) (v := ?_) rfl rfl (by kernel_rfl) (by kernel_rfl) (by kernel_rfl) (fun _ _ _ h => h) (Or.inl ⟨by kernel_rfl, ?_⟩) hS ?_; rotate_left 1; (focus ((intro w' hS'; clear hS'; go_simp; try with_reducible rfl); done))
          try simp only [List.setIfInBounds_toArray, List.set_cons_zero, List.set_cons_succ]
          refine takeH (i := 3) (d := 49) (v := ?_) rfl rfl (by kernel_rfl) (by kernel_rfl) (by kernel_rfl) (fun _ _ _ h => h) (Or.inl ⟨by kernel_rfl, ?_⟩) hS ?_; rotate_left 1; (focus ((intro w' hS'; obtain ⟨z0, z1, z2⟩ := HC.out w' (OW.out.1.trans (hS'.mono (by omega))) ((hS'.block _ (by omega)).trans OW.out.2.1); clear hS'; go_simp; try with_reducible rfl); done))
          try simp only [List.setIfInBounds_toArray, List.set_cons_zero, List.set_cons_succ]
          refine takeH (i := 4) (d := 50) (v := ?_) rfl rfl (by kernel_rfl) (by kernel_rfl) (by kernel_rfl) (fun _ _ _ h => h) (Or.inl ⟨by kernel_rfl, ?_⟩) hS ?_; rotate_left 1; (focus ((intro w' hS'; clear hS'; go_simp; try with_reducible rfl); done))
          try simp only [List.setIfInBounds_toArray, List.set_cons_zero, List.set_cons_succ]
          refine takeH (i := 5) (d := 51) (v := ?_) rfl rfl (by kernel_rfl) (by kernel_rfl) (by kernel_rfl) (fun _ _ _ h => h) (Or.inl ⟨by kernel_rfl, ?_⟩) hS ?_; rotate_left 1; (focus ((intro w' hS'; clear hS'; go_simp; try with_reducible rfl); done))
          try simp only [List.setIfInBounds_toArray, List.set_cons_zero, List.set_cons_succ]
          refine takeH (i := 6) (d := 52) (v := ?_) rfl rfl (by kernel_rfl) (by kernel_rfl) (by kernel_rfl) (fun _ _ _ h => h) (Or.inl ⟨by kernel_rfl, ?_⟩) hS ?_; rotate_left 1; (focus ((intro w' hS'; clear hS'; go_simp; try with_reducible rfl); done))
          try simp only [List.setIfInBounds_toArray, List.set_cons_zero, List.set_cons_succ]
          refine takeH (i := 7) (d := 53) (v := ?_) rfl rfl (by kernel_rfl) (by kernel_rfl) (by kernel_rfl) (fun _ _ _ h => h) (Or.inl ⟨by kernel_rfl, ?_⟩) hS ?_; rotate_left 1; (focus ((intro w' hS'; obtain ⟨z0, z1, z2⟩ := HC.out w' (OW.out.1.trans (hS'.mono (by omega))) ((hS'.block _ (by omega)).trans OW.out.2.1); clear hS'; go_simp; try with_reducible rfl); done))
          try simp only [List.setIfInBounds_toArray, List.set_cons_zero, List.set_cons_succ]
          refine takeH (i := 8) (d := 54) (v := ?_) rfl rfl (by kernel_rfl) (by kernel_rfl) (by kernel_rfl) (fun _ _ _ h => h) (Or.inl ⟨by kernel_rfl, ?_⟩) hS ?_; rotate_left 1; (focus ((intro w' hS'; clear hS'; go_simp; try with_reducible rfl); done))
          try simp only [List.setIfInBounds_toArray, List.set_cons_zero, List.set_cons_succ]
          refine takeH (i := 9) (d := 55) (v := ?_) rfl rfl (by kernel_rfl) (by kernel_rfl) (by kernel_rfl) (fun _ _ _ h => h) (Or.inl ⟨by kernel_rfl, ?_⟩) hS ?_; rotate_left 1; (focus ((intro w' hS'; obtain ⟨z0, z1, z2⟩ := HC.out w' (OW.out.1.trans (hS'.mono (by omega))) ((hS'.block _ (by omega)).trans OW.out.2.1); clear hS'; go_simp; try with_reducible rfl); done))
          try simp only [List.setIfInBounds_toArray, List.set_cons_zero, List.set_cons_succ]
          refine takeH (i := 10) (d := 56) (v := ?_) rfl rfl (by kernel_rfl) (by kernel_rfl) (by kernel_rfl) (fun _ _ _ h => h) (Or.inl ⟨by kernel_rfl, ?_⟩) hS ?_; rotate_left 1; (focus ((intro w' hS'; clear hS'; go_simp; try with_reducible rfl); done))
          try simp only [List.setIfInBounds_toArray, List.set_cons_zero, List.set_cons_succ]
          refine takeH (i := 11) (d := 57) (v := ?_) rfl rfl (by kernel_rfl) (by kernel_rfl) (by kernel_rfl) (fun _ _ _ h => h) (Or.inl ⟨by kernel_rfl, ?_⟩) hS ?_; rotate_left 1; (focus ((intro w' hS'; clear hS'; go_simp; try with_reducible rfl); done))
          try simp only [List.setIfInBounds_toArray, List.set_cons_zero, List.set_cons_succ]
          refine takeH (i := 12) (d := 58) (v := ?_) rfl rfl (by kernel_rfl) (by kernel_rfl) (by kernel_rfl) (fun _ _ _ h => h) (Or.inl ⟨by kernel_rfl, ?_⟩) hS ?_; rotate_left 1; (focus ((intro w' hS'; clear hS'; go_simp; try with_reducible rfl); done))
          try simp only [List.setIfInBounds_toArray, List.set_cons_zero, List.set_cons_succ]
          refine takeH (i := 13) (d := 59) (v := ?_) rfl rfl (by kernel_rfl) (by kernel_rfl) (by kernel_rfl) (fun _ _ _ h => h) (Or.inl ⟨by kernel_rfl, ?_⟩) hS ?_; rotate_left 1; (focus ((intro w' hS'; clear hS'; go_simp; try with_reducible rfl); done))
          try simp only [List.setIfInBounds_toArray, List.set_cons_zero, List.set_cons_succ]
          refine takeH (i := 14) (d := 60) (v := ?_) rfl rfl (by kernel_rfl) (by kernel_rfl) (by kernel_rfl) (fun _ _ _ h => h) (Or.inl ⟨by kernel_rfl, ?_⟩) hS ?_; rotate_left 1; (focus ((intro w' hS'; obtain ⟨z0, z1, z2⟩ := HC.out w' (OW.out.1.trans (hS'.mono (by omega))) ((hS'.block _ (by omega)).trans OW.out.2.1); clear hS'; go_simp; try with_reducible rfl); done))
          try simp only [List.setIfInBounds_toArray, List.set_cons_zero, List.set_cons_succ]
          refine takeH (i := 15) (d := 61) (v := ?_) rfl rfl (by kernel_rfl) (by kernel_rfl) (by kernel_rfl) (fun _ _ _ h => h) (Or.inl ⟨by kernel_rfl, ?_⟩) hS ?_; rotate_left 1; (focus ((intro w' hS'; clear hS'; go_simp; try with_reducible rfl); done))
          try simp only [List.setIfInBounds_toArray, List.set_cons_zero, List.set_cons_succ]
          refine wpAnyH_ready (rs := [1, 16]) (by kernel_rfl) (by simp) ?_
          refine AllReadyH.cons rfl (fun K hK => ?_) ?_
          · go_simp
            refine hK.out _ _ ?_ (fun hS2 => ?_)
            · exact hS
            clear hK K hS; have hS := hS2; clear hS2
            try simp only [Act.put, List.setIfInBounds_toArray, List.set_cons_zero, List.set_cons_succ]
            refine wpAnyH_ready (rs := [16]) (by kernel_rfl) (by simp) ?_
            refine readyH_list rfl (fun K hK => ?_) AllReadyH.nil
            refine wpList_bs1 rfl 70 151 (.tmp 61) rfl #[.string s, .string t] rfl _ 2 32 Try.underlying70 infoRef rfl (by decide) (by decide) ?_
            intro w5 b5 hw5 hb5
            have NB := bx (show w5.heap[b5]? = some (.cells #[.string s, .string t] 151 (0, 0)) by rw [← hw5, ← hb5]; exact blk_new _ _)
            have RO5 := bx (show RowO w5 (w.heap.size + 3) 151 2 rv j by rw [← hw5]; exact (RO.out.kept ((Below.refl _ _).drew)).alloc _)
            have D5 := bx (show Below wr.heap.size wr w5 by rw [← hw5]; exact ((Below.refl _ _).drew).alloc (Nat.le_refl _) _)
            have cR5 : w5.cell? ⟨w.heap.size + 2, 4, none⟩ = some rv := blk_cell ((D5.out.block _ (blk_lt OW.out.2.2.2)).trans OW.out.2.2.2) rfl
            clear hw5 hb5
            show wpList _ _ K [] (Act.put _ (some 62) _) w5
            refine hK.out _ _ ?_ (fun hS2 => ?_)
            · exact D5.out.mono (Nat.le_trans (by omega) L3.out)
            clear hK K hS; have hS := hS2; clear hS2
            try simp only [Act.put, List.setIfInBounds_toArray, List.set_cons_zero, List.set_cons_succ]
            refine wpAnyH_ready (rs := [17]) (by kernel_rfl) (by simp) ?_
            refine readyH_list rfl (fun K hK => ?_) AllReadyH.nil
            refine wpList_ap1 rfl (.tmp 47) (.tmp 62) 70 rfl (w.heap.size + 3) 151 _ 2 32 Try.underlying70 infoRef rfl (by decide) (by decide) rv j rfl RO5.out b5 rfl #[.string s, .string t] NB.out rfl (one_ss s t) (by omega) (Nat.le_trans L3.out D5.out.size) ?_
            intro v9 w9 h1 h2 _
            obtain ⟨A9, n9, rfl⟩ := h1.form
            have RO9 := bx h1
            have D9 := bx (h2 (w.heap.size + 3) wr (D5.out.mono L3.out) (Nat.le_refl _) (Nat.le_trans L3.out D5.out.size))
            clear h1 h2
            have C9 := bx ((D9.out.block _ (Nat.lt_succ_self _)).trans OW.out.2.2.2)
            have c9 : w9.cell? ⟨w.heap.size + 2, 4, none⟩ = some rv := blk_cell C9.out rfl
            have f9 := blk_frozen 4 C9.out
            clear cR5
            show wpList _ _ K [] (Act.put _ (some 63) (.slice A9 (j + 1) n9)) w9
            refine hK.out _ _ ?_ (fun hS2 => ?_)
            · exact D9.out.mono (by omega)
            clear hK K hS; have hS := hS2; clear hS2
            try simp only [Act.put, List.setIfInBounds_toArray, List.set_cons_zero, List.set_cons_succ]
            refine takeH (i := 18) (d := 64) (v := ?_) rfl rfl (by kernel_rfl) (by kernel_rfl) (by kernel_rfl) (fun _ _ _ h => h) (Or.inl ⟨by kernel_rfl, ?_⟩) hS ?_; rotate_left 1; (focus ((intro w' hS'; clear hS'; go_simp; try with_reducible rfl); done))
            try simp only [List.setIfInBounds_toArray, List.set_cons_zero, List.set_cons_succ]
            refine wpAnyH_ready (rs := [19]) (by kernel_rfl) (by simp) ?_
            refine AllReadyH.cons rfl (fun K hK => ?_) AllReadyH.nil
            go_simp
            refine hK.out _ _ ?_ (fun hS2 => ?_)
            · exact hS.setCell (Nat.le_refl _) _
            clear hK K hS; have hS := hS2; clear hS2
            try simp only [Act.put, List.setIfInBounds_toArray, List.set_cons_zero, List.set_cons_succ]
            refine wpAnyH_done (by kernel_rfl) ?_ _
            clear c9 f9 hS0 hS cR
            obtain ⟨w8, hw8⟩ : ∃ w8, w8 = w9.setCell ⟨w.heap.size + 2, 4, none⟩ (.slice A9 (j + 1) n9) := ⟨_, rfl⟩
            have u8 := updC (j := 4) C9.out (.slice A9 (j + 1) n9)
            rw [← hw8] at u8 ⊢
            have OW8 := bx (OW.out.store4 D9.out u8)
            have RO8 := bx (RO9.out.upd u8 (by omega))
            clear hw8 u8
            go_wp2_with fail
            go_roundw
            case rel => exact ⟨j + 1, _, by omega, by first | rfl | go_num, OW8.out, RO8.out⟩
            case measure => simp only [intOf]; omega
          refine readyH_list rfl (fun K hK => ?_) ?_
          · refine wpList_bs1 rfl 70 151 (.tmp 61) rfl #[.string s, .string t] rfl _ 2 32 Try.underlying70 infoRef rfl (by decide) (by decide) ?_
            intro w5 b5 hw5 hb5
            have NB := bx (show w5.heap[b5]? = some (.cells #[.string s, .string t] 151 (0, 0)) by rw [← hw5, ← hb5]; exact blk_new _ _)
            have RO5 := bx (show RowO w5 (w.heap.size + 3) 151 2 rv j by rw [← hw5]; exact (RO.out.kept ((Below.refl _ _).drew)).alloc _)
            have D5 := bx (show Below wr.heap.size wr w5 by rw [← hw5]; exact ((Below.refl _ _).drew).alloc (Nat.le_refl _) _)
            have cR5 : w5.cell? ⟨w.heap.size + 2, 4, none⟩ = some rv := blk_cell ((D5.out.block _ (blk_lt OW.out.2.2.2)).trans OW.out.2.2.2) rfl
            clear hw5 hb5
            show wpList _ _ K [] (Act.put _ (some 62) _) w5
            refine hK.out _ _ ?_ (fun hS2 => ?_)
            · exact D5.out.mono (Nat.le_trans (by omega) L3.out)
            clear hK K hS; have hS := hS2; clear hS2
            try simp only [Act.put, List.setIfInBounds_toArray, List.set_cons_zero, List.set_cons_succ]
            refine wpAnyH_ready (rs := [1]) (by kernel_rfl) (by simp) ?_
            refine AllReadyH.cons rfl (fun K hK => ?_) AllReadyH.nil
            go_simp
            refine hK.out _ _ ?_ (fun hS2 => ?_)
            · exact hS
            clear hK K hS; have hS := hS2; clear hS2
            try simp only [Act.put, List.setIfInBounds_toArray, List.set_cons_zero, List.set_cons_succ]
            refine wpAnyH_ready (rs := [17]) (by kernel_rfl) (by simp) ?_
            refine readyH_list rfl (fun K hK => ?_) AllReadyH.nil
            refine wpList_ap1 rfl (.tmp 47) (.tmp 62) 70 rfl (w.heap.size + 3) 151 _ 2 32 Try.underlying70 infoRef rfl (by decide) (by decide) rv j rfl RO5.out b5 rfl #[.string s, .string t] NB.out rfl (one_ss s t) (by omega) (Nat.le_trans L3.out D5.out.size) ?_
            intro v9 w9 h1 h2 _
            obtain ⟨A9, n9, rfl⟩ := h1.form
            have RO9 := bx h1
            have D9 := bx (h2 (w.heap.size + 3) wr (D5.out.mono L3.out) (Nat.le_refl _) (Nat.le_trans L3.out D5.out.size))
            clear h1 h2
            have C9 := bx ((D9.out.block _ (Nat.lt_succ_self _)).trans OW.out.2.2.2)
            have c9 : w9.cell? ⟨w.heap.size + 2, 4, none⟩ = some rv := blk_cell C9.out rfl
            have f9 := blk_frozen 4 C9.out
            clear cR5
            show wpList _ _ K [] (Act.put _ (some 63) (.slice A9 (j + 1) n9)) w9
            refine hK.out _ _ ?_ (fun hS2 => ?_)
            · exact D9.out.mono (by omega)
            clear hK K hS; have hS := hS2; clear hS2
            try simp only [Act.put, List.setIfInBounds_toArray, List.set_cons_zero, List.set_cons_succ]
            refine takeH (i := 18) (d := 64) (v := ?_) rfl rfl (by kernel_rfl) (by kernel_rfl) (by kernel_rfl) (fun _ _ _ h => h) (Or.inl ⟨by kernel_rfl, ?_⟩) hS ?_; rotate_left 1; (focus ((intro w' hS'; clear hS'; go_simp; try with_reducible rfl); done))
            try simp only [List.setIfInBounds_toArray, List.set_cons_zero, List.set_cons_succ]
            refine wpAnyH_ready (rs := [19]) (by kernel_rfl) (by simp) ?_
            refine AllReadyH.cons rfl (fun K hK => ?_) AllReadyH.nil
            go_simp
            refine hK.out _ _ ?_ (fun hS2 => ?_)
            · exact hS.setCell (Nat.le_refl _) _
            clear hK K hS; have hS := hS2; clear hS2
            try simp only [Act.put, List.setIfInBounds_toArray, List.set_cons_zero, List.set_cons_succ]
            refine wpAnyH_done (by kernel_rfl) ?_ _
            clear c9 f9 hS0 hS cR
            obtain ⟨w8, hw8⟩ : ∃ w8, w8 = w9.setCell ⟨w.heap.size + 2, 4, none⟩ (.slice A9 (j + 1) n9) := ⟨_, rfl⟩
            have u8 := updC (j := 4) C9.out (.slice A9 (j + 1) n9)
            rw [← hw8] at u8 ⊢
            have OW8 := bx (OW.out.store4 D9.out u8)
            have RO8 := bx (RO9.out.upd u8 (by omega))
            clear hw8 u8
            go_wp2_with fail
            go_roundw
            case rel => exact ⟨j + 1, _, by omega, by first | rfl | go_num, OW8.out, RO8.out⟩
            case measure => simp only [intOf]; omega
          exact AllReadyH.nil
      · have hlt' : ¬ (j : Int) < rn := by omega
        obtain rfl : j = rn := by omega
        obtain ⟨A1, n1c, rfl⟩ := RO.out.form
        have y4 := blk_cell OW.out.2.1 HCB.out.2.2.2.2.1
        clear RO
        go_wp2_with fail
        clear y4 hlt'
        go_loopw [6] (fun i wr => ∃ (k : Nat) (pv : Value), k ≤ pn ∧ i = .int .i64 k ∧ OwnW w wr CB g ep wi st (.slice A1 j n1c) pv ∧ RowO wr (w.heap.size + 3) 158 3 pv k ∧ ∀ i, i < k → (pk i).n ≤ 60) (fun i _ => (pn - intOf i).toNat)
        case atStart => exact ⟨0, _, Nat.zero_le _, rfl, OW.out, RowO.nil _ _ _ _, fun i hi => absurd hi (by omega)⟩
        case round =>
          rename World => wp
          obtain ⟨k, pv, hk, rfl, how, hro, hall⟩ := hrel
          clear OW L3
          have OW := bx how; have RO := bx hro; have L3 := bx how.lt; have HALL := bx hall
          clear how hro hall
          by_cases hlt : k < pn
          · have hlt' : (k : Int) < pn := by omega
            obtain ⟨b2, o2, rfl, hb2, hr2⟩ := HF3.out.at hlt
            obtain ⟨hkey, hrow, hbl⟩ := HF4.out k hlt
            have HKN : Bx ((pk k).n ≤ 60 → ∀ i, i < k + 1 → (pk i).n ≤ 60) := ⟨fun h i hi => by
              by_cases e : i = k
              · rw [e]; exact h
              · exact HALL.out i (by omega)⟩
            generalize pk k = q at hkey hrow hbl hr2 HKN
            obtain ⟨key, cnt, BA, bn, bc, bl⟩ := q
            dsimp only at hkey hrow hbl HKN
            have HC : Bx (∀ w', Below w.heap.size w w' → w'.heap[w.heap.size]? = some (.cells CB 69 (0, 0)) → w'.cell? ⟨w.heap.size, 5, none⟩ = some (.slice (some ⟨b2, o2, none⟩) pn pc) ∧ w'.cell? ⟨b2, o2 + k * 34 + 32, none⟩ = some (.int .i64 cnt) ∧ w'.cell? ⟨b2, o2 + k * 34 + 33, none⟩ = some (.slice BA bn bc) ∧ (convert 22 9 (.slice (some ⟨b2, o2 + k * 34, none⟩) 32 32)).run Try.prog w' = .ok (.string (strOfNums key)) w') := ⟨fun w' hb hk => by
              have hg := hr2 w' hb
              have e : (u8s key).length = 32 := by rw [u8s_length, hkey]
              refine ⟨blk_cell hk HCB.out.2.2.2.2.2, hg 32 _ ?_, hg 33 _ ?_, ?_⟩
              · rw [PackA.cells, List.getElem?_append_right (by rw [e]; omega), e]; rfl
              · rw [PackA.cells, List.getElem?_append_right (by rw [e]; omega), e]; rfl
              · have h9 := row_rdB (pre := []) (id := key) (post := [.int .i64 cnt, .slice BA bn bc]) hg rfl (Nat.lt_of_lt_of_le hb2 hb.size)
                rw [hkey] at h9
                exact str_of h9 32⟩
            have HROW := bx hrow; have HBL := bx hbl
            have sl := arr_slice_all (P := Try.prog) (t := 152) Try.underlying152 Try.sizeOf5 b2 (o2 + k * 34)
            generalize strOfNums key = t at *
            have y5 := (HC.out wp OW.out.1 OW.out.2.1).1
            clear hr2 hkey hrow hbl HALL
            go_wp2_with fail
            clear y5
            have hS0 : Below wp.heap.size wp wp.drew := (Below.refl _ _).drew
            refine wp_region_held_drew (S := (fun w' => Below wp.heap.size wp w')) (by kernel_rfl) hS0 (fun hS => ?_)
            refine takeH (i := 0) (d := 72) (v := ?_) rfl rfl (by kernel_rfl) (by kernel_rfl) (by kernel_rfl) (fun _ _ _ h => h) (Or.inl ⟨by kernel_rfl, ?_⟩) hS ?_; rotate_left 1; (focus ((intro w' hS'; clear hS'; go_simp; try with_reducible rfl); done))
            try simp only [List.setIfInBounds_toArray, List.set_cons_zero, List.set_cons_succ]
            refine takeH (i := 1) (d := 73) (v := ?_) rfl rfl (by kernel_rfl) (by kernel_rfl) (by kernel_rfl) (fun _ _ _ h => h) (Or.inl ⟨by kernel_rfl, ?_⟩) hS ?_; rotate_left 1; (focus ((intro w' hS'; obtain ⟨z0, z1, z2, z3⟩ := HC.out w' (OW.out.1.trans (hS'.mono (by have := L3.out; omega))) ((hS'.block _ (by have := L3.out; omega)).trans OW.out.2.1); clear hS'; go_simp; try with_reducible rfl); done))
            try simp only [List.setIfInBounds_toArray, List.set_cons_zero, List.set_cons_succ]
            refine takeH (i := 2) (d := 74) (v := ?_) rfl rfl (by kernel_rfl) (by kernel_rfl) (by kernel_rfl) (fun _ _ _ h => h) (Or.inl ⟨by kernel_rfl, ?_⟩) hS ?_; rotate_left 1; (focus ((intro w' hS'; clear hS'; go_simp; try with_reducible rfl); done))
            try simp only [List.setIfInBounds_toArray, List.set_cons_zero, List.set_cons_succ]
            refine takeH (i := 3) (d := 75) (v := ?_) rfl rfl (by kernel_rfl) (by kernel_rfl) (by kernel_rfl) (fun _ _ _ h => h) (Or.inl ⟨by kernel_rfl, ?_⟩) hS ?_; rotate_left 1; (focus ((intro w' hS'; clear hS'; go_simp; try with_reducible rfl); done))
            try simp only [List.setIfInBounds_toArray, List.set_cons_zero, List.set_cons_succ]
            refine takeH (i := 4) (d := 76) (v := ?_) rfl rfl (by kernel_rfl) (by kernel_rfl) (by kernel_rfl) (fun _ _ _ h => h) (Or.inl ⟨by kernel_rfl, ?_⟩) hS ?_; rotate_left 1; (focus ((intro w' hS'; clear hS'; go_simp; try with_reducible rfl); done))
            try simp only [List.setIfInBounds_toArray, List.set_cons_zero, List.set_cons_succ]
            refine takeH (i := 5) (d := 77) (v := ?_) rfl rfl (by kernel_rfl) (by kernel_rfl) (by kernel_rfl) (fun _ _ _ h => h) (Or.inl ⟨by kernel_rfl, ?_⟩) hS ?_; rotate_left 1; (focus ((intro w' hS'; clear hS'; go_simp; try with_reducible rfl); done))
            try simp only [List.setIfInBounds_toArray, List.set_cons_zero, List.set_cons_succ]
            refine takeH (i := 6) (d := 78) (v := ?_) rfl rfl (by kernel_rfl) (by kernel_rfl) (by kernel_rfl) (fun _ _ _ h => h) (Or.inl ⟨by kernel_rfl, ?_⟩) hS ?_; rotate_left 1; (focus ((intro w' hS'; obtain ⟨z0, z1, z2, z3⟩ := HC.out w' (OW.out.1.trans (hS'.mono (by have := L3.out; omega))) ((hS'.block _ (by have := L3.out; omega)).trans OW.out.2.1); clear hS'; go_simp; try with_reducible rfl); done))
            try simp only [List.setIfInBounds_toArray, List.set_cons_zero, List.set_cons_succ]
            refine takeH (i := 7) (d := 79) (v := ?_) rfl rfl (by kernel_rfl) (by kernel_rfl) (by kernel_rfl) (fun _ _ _ h => h) (Or.inl ⟨by kernel_rfl, ?_⟩) hS ?_; rotate_left 1; (focus ((intro w' hS'; clear hS'; go_simp; try with_reducible rfl); done))
            try simp only [List.setIfInBounds_toArray, List.set_cons_zero, List.set_cons_succ]
            refine takeH (i := 8) (d := 80) (v := ?_) rfl rfl (by kernel_rfl) (by kernel_rfl) (by kernel_rfl) (fun _ _ _ h => h) (Or.inl ⟨by kernel_rfl, ?_⟩) hS ?_; rotate_left 1; (focus ((intro w' hS'; obtain ⟨z0, z1, z2, z3⟩ := HC.out w' (OW.out.1.trans (hS'.mono (by have := L3.out; omega))) ((hS'.block _ (by have := L3.out; omega)).trans OW.out.2.1); clear hS'; go_simp; try with_reducible rfl); done))
            try simp only [List.setIfInBounds_toArray, List.set_cons_zero, List.set_cons_succ]
            refine takeH (i := 9) (d := 81) (v := ?_) rfl rfl (by kernel_rfl) (by kernel_rfl) (by kernel_rfl) (fun _ _ _ h => h) (Or.inl ⟨by kernel_rfl, ?_⟩) hS ?_; rotate_left 1; (focus ((intro w' hS'; clear hS'; go_simp; try with_reducible rfl); done))
            try simp only [List.setIfInBounds_toArray, List.set_cons_zero, List.set_cons_succ]
            refine takeH (i := 10) (d := 82) (v := ?_) rfl rfl (by kernel_rfl) (by kernel_rfl) (by kernel_rfl) (fun _ _ _ h => h) (Or.inl ⟨by kernel_rfl, ?_⟩) hS ?_; rotate_left 1; (focus ((intro w' hS'; clear hS'; go_simp; try with_reducible rfl); done))
            try simp only [List.setIfInBounds_toArray, List.set_cons_zero, List.set_cons_succ]
            refine takeH (i := 11) (d := 83) (v := ?_) rfl rfl (by kernel_rfl) (by kernel_rfl) (by kernel_rfl) (fun _ _ _ h => h) (Or.inl ⟨by kernel_rfl, ?_⟩) hS ?_; rotate_left 1; (focus ((intro w' hS'; clear hS'; go_simp; try with_reducible rfl); done))
            try simp only [List.setIfInBounds_toArray, List.set_cons_zero, List.set_cons_succ]
            refine takeH (i := 12) (d := 84) (v := ?_) rfl rfl (by kernel_rfl) (by kernel_rfl) (by kernel_rfl) (fun _ _ _ h => h) (Or.inl ⟨by kernel_rfl, ?_⟩) hS ?_; rotate_left 1; (focus ((intro w' hS'; obtain ⟨z0, z1, z2, z3⟩ := HC.out w' (OW.out.1.trans (hS'.mono (by have := L3.out; omega))) ((hS'.block _ (by have := L3.out; omega)).trans OW.out.2.1); clear hS'; go_simp; try with_reducible rfl); done))
            try simp only [List.setIfInBounds_toArray, List.set_cons_zero, List.set_cons_succ]
            refine takeH (i := 13) (d := 85) (v := ?_) rfl rfl (by kernel_rfl) (by kernel_rfl) (by kernel_rfl) (fun _ _ _ h => h) (Or.inl ⟨by kernel_rfl, ?_⟩) hS ?_; rotate_left 1; (focus ((intro w' hS'; clear hS'; go_simp; try with_reducible rfl); done))
            try simp only [List.setIfInBounds_toArray, List.set_cons_zero, List.set_cons_succ]
            refine wpAnyH_ready (rs := [14]) (by kernel_rfl) (by simp) ?_
            refine AllReadyH.cons rfl (fun K hK => ?_) AllReadyH.nil
            go_simp
            refine hK.out _ _ ?_ (fun hS2 => ?_)
            · exact hS.alloc hS.size _
            clear hK K hS; have hS := hS2; clear hS2
            try simp only [Act.put, List.setIfInBounds_toArray, List.set_cons_zero, List.set_cons_succ]
            refine wpAnyH_ready (rs := [15]) (by kernel_rfl) (by simp) ?_
            refine readyH_list rfl (fun K hK => ?_) AllReadyH.nil
            refine store_all (cs := #[.string t, .int .i64 cnt, .slice none 0 0]) 158 (.tmp 7) (.tmp 85) rfl rfl rfl rfl (blk_new _ _) (pk_is _ _ _) rfl (one_pk _ _ _ _ _) ?_
            intro w5 hu5
            have C5 := bx hu5.same; have D5 := bx (hS.trans (hu5.below (Nat.le_refl _)))
            clear hu5
            show wpList _ _ K [] (Act.put _ none undef) w5
            refine hK.out _ _ ?_ (fun hS2 => ?_)
            · exact D5.out
            clear hK K hS; have hS := hS2; clear hS2
            try simp only [Act.put, List.setIfInBounds_toArray, List.set_cons_zero, List.set_cons_succ]
            refine wpAnyH_done (by kernel_rfl) ?_ _
            have OW5 := bx (OW.out.step (D5.out.mono L3.out))
            have RO5 := bx (RO.out.kept D5.out)
            clear hS hS0
            obtain ⟨y5, y6, y7, _⟩ := HC.out w5 OW5.out.1 OW5.out.2.1
            by_cases h60 : 60 < bn
            · have h60' : (60 : Int) < bn := by omega
              go_wp2_with (first
                | ((with_reducible refine at_load 94 ?_); go_must (refine load_all 73 (.tmp 4) rfl rfl rfl OW5.out.2.2.2 Try.underlying73 rfl (by kernel_rfl) ?_))
                | ((with_reducible refine at_store (.tmp 2) (.tmp 94) ?_); go_must (obtain ⟨A2, c2, rfl⟩ := RO5.out.form; refine store_all (cs := bodyC g ep wi st (.slice A1 j n1c) (.slice A2 k c2)) 73 (.tmp 2) (.tmp 94) rfl rfl rfl rfl OW5.out.2.2.1 (rbody_is _ _ _ _ _ _ _ _ _ _) rfl (body_one _ _ _ _ _ _ _ _ _ _) ?_; intro w9 hu9; have B9 := bx (OW5.out.1.trans (hu9.below (by omega))); have R9 := bx hu9.same; clear hu9)))
              refine bodyPost_ret (results_ct (cs := bodyC g ep wi st (.slice A1 j n1c) (.slice A2 k c2)) rfl _ _ (w.heap.size + 1) 73 _ _ rfl rfl R9.out Try.underlying73 rfl (rbody_is _ _ _ _ _ _ _ _ _ _)) rfl ?_
              exact HOUT.out _ _ _ _ _ _ _ _ (.inl rfl) B9.out
            · have h60' : ¬ (60 : Int) < bn := by omega
              have HKN2 := bx (HKN.out (by omega))
              clear HKN
              go_wp2_with fail
              clear y5 y6 y7 h60'
              go_loopw [8] (fun i w3 => ∃ (m : Nat) (bv : Value), m ≤ bn ∧ i = .int .i64 m ∧ Below wp.heap.size w5 w3 ∧ w3.heap[wp.heap.size]? = some (.cells #[.string t, .int .i64 cnt, bv] 158 (0, 0)) ∧ RowO w3 (wp.heap.size + 1) 162 2 bv m) (fun i _ => (bn - intOf i).toNat)
              case atStart => exact ⟨0, _, Nat.zero_le _, rfl, Below.refl _ _, C5.out, RowO.nil _ _ _ _⟩
              case round =>
                rename World => w3
                obtain ⟨m, bv, hm, rfl, hd3, hc3, hro3⟩ := hrel
                have D3 := bx (D5.out.trans hd3); have D53 := bx hd3; have C3 := bx hc3; have R3 := bx hro3
                have OW3 := bx (OW.out.step (D3.out.mono L3.out))
                have L5 := bx (blk_lt hc3)
                clear hd3 hc3 hro3
                obtain ⟨y5, y6, y7, _⟩ := HC.out w3 OW3.out.1 OW3.out.2.1
                by_cases hlt3 : m < bn
                · have hlt3' : (m : Int) < bn := by omega
                  obtain ⟨b3, o3, rfl, hb3, hr3⟩ := HROW.out.at hlt3
                  have hl := HBL.out m hlt3
                  generalize bl m = L at *
                  have HR := bx (hr3 w3 OW3.out.1)
                  have HI : Bx ((Try.prog.info? 160).map (·.size) = some (u8s L).length) := ⟨by rw [u8s_length, hl]; kernel_rfl⟩
                  have HI2 : Bx ((Try.prog.info? 160).map (·.size) = some (u8s L).toArray.size) := ⟨by rw [List.size_toArray]; exact HI.out⟩
                  have HS : Bx ((u8s L).toArray.size = 48) := ⟨by rw [List.size_toArray, u8s_length]; exact hl⟩
                  have HX : Bx (∀ w' : World, w'.heap[w3.heap.size]? = some (.cells (u8s L).toArray 160 (0, 0)) → (convert 22 9 (.slice (some ⟨w3.heap.size, 0, none⟩) 16 16)).run Try.prog w' = .ok (.string (strOfNums (L.take 16))) w' ∧ (convert 22 9 (.slice (some ⟨w3.heap.size, 16, none⟩) 32 32)).run Try.prog w' = .ok (.string (strOfNums ((L.drop 16).take 32))) w') := ⟨fun w' hk => by
                    have h9 := row_rd hk hl
                    have h8 := rdB_sub 16 32 h9 (by decide)
                    rw [Nat.zero_add] at h8
                    exact ⟨str_of (rdB_take 16 h9 (by decide)) 16, str_of h8 32⟩⟩
                  have sl1 := arr_slice_all (P := Try.prog) (t := 113) Try.underlying113 Try.sizeOf5 w3.heap.size 0
                  have sl2 := arr_slice_all (P := Try.prog) (t := 82) Try.underlying82 Try.sizeOf5 w3.heap.size 16
                  have HO : Bx (∀ v ∈ (u8s L).toArray.toList, v.oneCell' = true) := ⟨fun v hv => by
                    simp only [u8s, List.mem_map] at hv
                    obtain ⟨x, _, rfl⟩ := hv
                    rfl⟩
                  generalize strOfNums (L.take 16) = t1 at *
                  generalize strOfNums ((L.drop 16).take 32) = t2 at *
                  clear hr3 hl
                  generalize u8s L = cl at *
                  go_wp2_with (first
                    | ((with_reducible refine at_load 114 ?_); go_must (refine wpList_load_mid rfl 160 (.tmp 113) rfl b3 (o3 + m * 48) rfl cl _ HR.out Try.underlying160 rfl HI.out ?_))
                    | ((with_reducible refine at_store (.tmp 9) (.tmp 114) ?_); go_must (refine store_all (cs := cl.toArray) 160 (.tmp 9) (.tmp 114) rfl rfl rfl rfl (blk_new w3 _) HI2.out (by rw [HS.out]; rfl) HO.out ?_; intro w6 hu6; have X6 := bx hu6.same; have D6 := bx (((Below.refl w3.heap.size w3).alloc (Nat.le_refl _) _).trans (hu6.below (Nat.le_refl _))); clear hu6)))
                  clear y5 y6 y7
                  have C6 := bx ((D6.out.block _ L5.out).trans C3.out)
                  have R6 := bx (R3.out.kept D6.out)
                  have cR : w6.drew.cell? ⟨wp.heap.size, 2, none⟩ = some bv := blk_cell (show w6.drew.heap[wp.heap.size]? = _ from C6.out) rfl
                  have hS0 : Below wp.heap.size w6 w6.drew ∧ w6.drew.heap[w3.heap.size]? = some (.cells cl.toArray 160 (0, 0)) := ⟨(Below.refl _ _).drew, X6.out⟩
                  refine wp_region_held_drew (S := (fun w' => Below wp.heap.size w6 w' ∧ w'.heap[w3.heap.size]? = some (.cells cl.toArray 160 (0, 0)))) (by kernel_rfl) hS0 (fun hS => ?_)
                  refine takeH (i := 0) (d := 115) (v := ?_) rfl rfl (by kernel_rfl) (by kernel_rfl) (by kernel_rfl) (fun _ _ _ h => h) (Or.inl ⟨by kernel_rfl, ?_⟩) hS ?_; rotate_left 1; (focus ((intro w' hS'; clear hS'; go_simp; try with_reducible rfl); done))
                  try simp only [List.setIfInBounds_toArray, List.set_cons_zero, List.set_cons_succ]
                  refine takeH (i := 2) (d := 117) (v := ?_) rfl rfl (by kernel_rfl) (by kernel_rfl) (by kernel_rfl) (fun _ _ _ h => h) (Or.inl ⟨by kernel_rfl, ?_⟩) hS ?_; rotate_left 1; (focus ((intro w' hS'; clear hS'; go_simp; try with_reducible rfl); done))
                  try simp only [List.setIfInBounds_toArray, List.set_cons_zero, List.set_cons_succ]
                  refine takeH (i := 3) (d := 118) (v := ?_) rfl rfl (by kernel_rfl) (by kernel_rfl) (by kernel_rfl) (fun _ _ _ h => h) (Or.inl ⟨by kernel_rfl, ?_⟩) hS ?_; rotate_left 1; (focus ((intro w' hS'; clear hS'; go_simp; try with_reducible rfl); done))
                  try simp only [List.setIfInBounds_toArray, List.set_cons_zero, List.set_cons_succ]
                  refine takeH (i := 4) (d := 119) (v := ?_) rfl rfl (by kernel_rfl) (by kernel_rfl) (by kernel_rfl) (fun _ _ _ h => h) (Or.inl ⟨by kernel_rfl, ?_⟩) hS ?_; rotate_left 1; (focus ((intro w' hS'; obtain ⟨z0, z1⟩ := HX.out w' hS'.2; clear hS'; go_simp; try with_reducible rfl); done))
                  try simp only [List.setIfInBounds_toArray, List.set_cons_zero, List.set_cons_succ]
                  refine takeH (i := 5) (d := 120) (v := ?_) rfl rfl (by kernel_rfl) (by kernel_rfl) (by kernel_rfl) (fun _ _ _ h => h) (Or.inl ⟨by kernel_rfl, ?_⟩) hS ?_; rotate_left 1; (focus ((intro w' hS'; clear hS'; go_simp; try with_reducible rfl); done))
                  try simp only [List.setIfInBounds_toArray, List.set_cons_zero, List.set_cons_succ]
                  refine takeH (i := 6) (d := 121) (v := ?_) rfl rfl (by kernel_rfl) (by kernel_rfl) (by kernel_rfl) (fun _ _ _ h => h) (Or.inl ⟨by kernel_rfl, ?_⟩) hS ?_; rotate_left 1; (focus ((intro w' hS'; clear hS'; go_simp; try with_reducible rfl); done))
                  try simp only [List.setIfInBounds_toArray, List.set_cons_zero, List.set_cons_succ]
                  refine takeH (i := 7) (d := 122) (v := ?_) rfl rfl (by kernel_rfl) (by kernel_rfl) (by kernel_rfl) (fun _ _ _ h => h) (Or.inl ⟨by kernel_rfl, ?_⟩) hS ?_; rotate_left 1; (focus ((intro w' hS'; obtain ⟨z0, z1⟩ := HX.out w' hS'.2; clear hS'; go_simp; try with_reducible rfl); done))
                  try simp only [List.setIfInBounds_toArray, List.set_cons_zero, List.set_cons_succ]
                  refine takeH (i := 8) (d := 123) (v := ?_) rfl rfl (by kernel_rfl) (by kernel_rfl) (by kernel_rfl) (fun _ _ _ h => h) (Or.inl ⟨by kernel_rfl, ?_⟩) hS ?_; rotate_left 1; (focus ((intro w' hS'; clear hS'; go_simp; try with_reducible rfl); done))
                  try simp only [List.setIfInBounds_toArray, List.set_cons_zero, List.set_cons_succ]
                  refine wpAnyH_ready (rs := [1, 9]) (by kernel_rfl) (by simp) ?_
                  refine AllReadyH.cons rfl (fun K hK => ?_) ?_
                  · go_simp
                    refine hK.out _ _ ?_ (fun hS2 => ?_)
                    · exact hS
                    clear hK K hS; have hS := hS2; clear hS2
                    try simp only [Act.put, List.setIfInBounds_toArray, List.set_cons_zero, List.set_cons_succ]
                    refine wpAnyH_ready (rs := [9]) (by kernel_rfl) (by simp) ?_
                    refine readyH_list rfl (fun K hK => ?_) AllReadyH.nil
                    refine wpList_bs1 rfl 156 162 (.tmp 123) rfl #[.string t1, .string t2] rfl _ 2 32 Try.underlying156 infoBlob rfl (by decide) (by decide) ?_
                    intro w7 b7 hw7 hb7
                    have NB := bx (show w7.heap[b7]? = some (.cells #[.string t1, .string t2] 162 (0, 0)) by rw [← hw7, ← hb7]; exact blk_new _ _)
                    have RO7 := bx (show RowO w7 (wp.heap.size + 1) 162 2 bv m by rw [← hw7]; exact (R6.out.kept ((Below.refl _ _).drew)).alloc _)
                    have D7 := bx (show Below w6.heap.size w6 w7 by rw [← hw7]; exact ((Below.refl _ _).drew).alloc (Nat.le_refl _) _)
                    have cR7 : w7.cell? ⟨wp.heap.size, 2, none⟩ = some bv := blk_cell ((D7.out.block _ (blk_lt C6.out)).trans C6.out) rfl
                    clear hw7 hb7
                    show wpList _ _ K [] (Act.put _ (some 124) _) w7
                    refine hK.out _ _ ?_ (fun hS2 => ?_)
                    · exact ⟨D7.out.mono (Nat.le_of_lt (blk_lt C6.out)), (D7.out.block _ (blk_lt X6.out)).trans X6.out⟩
                    clear hK K hS; have hS := hS2; clear hS2
                    try simp only [Act.put, List.setIfInBounds_toArray, List.set_cons_zero, List.set_cons_succ]
                    refine wpAnyH_ready (rs := [10]) (by kernel_rfl) (by simp) ?_
                    refine readyH_list rfl (fun K hK => ?_) AllReadyH.nil
                    refine wpList_ap1 rfl (.tmp 116) (.tmp 124) 156 rfl (wp.heap.size + 1) 162 _ 2 32 Try.underlying156 infoBlob rfl (by decide) (by decide) bv m rfl RO7.out b7 rfl #[.string t1, .string t2] NB.out rfl (one_ss t1 t2) (by omega) (Nat.le_trans (blk_lt C6.out) D7.out.size) ?_
                    intro v9 w9 h1 h2 h3
                    obtain ⟨A9, n9, rfl⟩ := h1.form
                    have RO9 := bx h1
                    have D9 := bx (h2 (wp.heap.size + 1) w6 (D7.out.mono (blk_lt C6.out)) (Nat.le_refl _) (Nat.le_trans (blk_lt C6.out) D7.out.size))
                    have X9 := bx ((h3 w3.heap.size (blk_lt hS.2) (fun e => Nat.lt_irrefl _ (R3.out.lt _ e).2)).trans hS.2)
                    clear h1 h2 h3
                    have C9 := bx ((D9.out.block _ (Nat.lt_succ_self _)).trans C6.out)
                    have c9 : w9.cell? ⟨wp.heap.size, 2, none⟩ = some bv := blk_cell C9.out rfl
                    have f9 := blk_frozen 2 C9.out
                    clear cR7
                    show wpList _ _ K [] (Act.put _ (some 125) (.slice A9 (m + 1) n9)) w9
                    refine hK.out _ _ ?_ (fun hS2 => ?_)
                    · exact ⟨D9.out.mono (by omega), X9.out⟩
                    clear hK K hS; have hS := hS2; clear hS2
                    try simp only [Act.put, List.setIfInBounds_toArray, List.set_cons_zero, List.set_cons_succ]
                    refine takeH (i := 11) (d := 126) (v := ?_) rfl rfl (by kernel_rfl) (by kernel_rfl) (by kernel_rfl) (fun _ _ _ h => h) (Or.inl ⟨by kernel_rfl, ?_⟩) hS ?_; rotate_left 1; (focus ((intro w' hS'; clear hS'; go_simp; try with_reducible rfl); done))
                    try simp only [List.setIfInBounds_toArray, List.set_cons_zero, List.set_cons_succ]
                    refine wpAnyH_ready (rs := [12]) (by kernel_rfl) (by simp) ?_
                    refine AllReadyH.cons rfl (fun K hK => ?_) AllReadyH.nil
                    go_simp
                    refine hK.out _ _ ?_ (fun hS2 => ?_)
                    · exact ⟨hS.1.setCell (Nat.le_refl _) _, blk_other hS.2 (Nat.ne_of_gt L5.out)⟩
                    clear hK K hS; have hS := hS2; clear hS2
                    try simp only [Act.put, List.setIfInBounds_toArray, List.set_cons_zero, List.set_cons_succ]
                    refine wpAnyH_done (by kernel_rfl) ?_ _
                    clear c9 f9 hS0 hS cR
                    obtain ⟨w8, hw8⟩ : ∃ w8, w8 = w9.setCell ⟨wp.heap.size, 2, none⟩ (.slice A9 (m + 1) n9) := ⟨_, rfl⟩
                    have u8 := updC (j := 2) C9.out (.slice A9 (m + 1) n9)
                    rw [← hw8] at u8 ⊢
                    have C8 := bx u8.same
                    have RO8 := bx (RO9.out.upd u8 (by omega))
                    have D8 := bx (D53.out.trans (((D6.out.mono (Nat.le_of_lt L5.out)).trans ((D9.out.mono (by omega)).trans (u8.below (Nat.le_refl _))))))
                    clear hw8 u8
                    go_wp2_with fail
                    go_roundw
                    case rel => exact ⟨m + 1, _, by omega, by first | rfl | go_num, D8.out, C8.out, RO8.out⟩
                    case measure => simp only [intOf]; omega
                  refine readyH_list rfl (fun K hK => ?_) ?_
                  · refine wpList_bs1 rfl 156 162 (.tmp 123) rfl #[.string t1, .string t2] rfl _ 2 32 Try.underlying156 infoBlob rfl (by decide) (by decide) ?_
                    intro w7 b7 hw7 hb7
                    have NB := bx (show w7.heap[b7]? = some (.cells #[.string t1, .string t2] 162 (0, 0)) by rw [← hw7, ← hb7]; exact blk_new _ _)
                    have RO7 := bx (show RowO w7 (wp.heap.size + 1) 162 2 bv m by rw [← hw7]; exact (R6.out.kept ((Below.refl _ _).drew)).alloc _)
                    have D7 := bx (show Below w6.heap.size w6 w7 by rw [← hw7]; exact ((Below.refl _ _).drew).alloc (Nat.le_refl _) _)
                    have cR7 : w7.cell? ⟨wp.heap.size, 2, none⟩ = some bv := blk_cell ((D7.out.block _ (blk_lt C6.out)).trans C6.out) rfl
                    clear hw7 hb7
                    show wpList _ _ K [] (Act.put _ (some 124) _) w7
                    refine hK.out _ _ ?_ (fun hS2 => ?_)
                    · exact ⟨D7.out.mono (Nat.le_of_lt (blk_lt C6.out)), (D7.out.block _ (blk_lt X6.out)).trans X6.out⟩
                    clear hK K hS; have hS := hS2; clear hS2
                    try simp only [Act.put, List.setIfInBounds_toArray, List.set_cons_zero, List.set_cons_succ]
                    refine wpAnyH_ready (rs := [1]) (by kernel_rfl) (by simp) ?_
                    refine AllReadyH.cons rfl (fun K hK => ?_) AllReadyH.nil
                    go_simp
                    refine hK.out _ _ ?_ (fun hS2 => ?_)
                    · exact hS
                    clear hK K hS; have hS := hS2; clear hS2
                    try simp only [Act.put, List.setIfInBounds_toArray, List.set_cons_zero, List.set_cons_succ]
                    refine wpAnyH_ready (rs := [10]) (by kernel_rfl) (by simp) ?_
                    refine readyH_list rfl (fun K hK => ?_) AllReadyH.nil
                    refine wpList_ap1 rfl (.tmp 116) (.tmp 124) 156 rfl (wp.heap.size + 1) 162 _ 2 32 Try.underlying156 infoBlob rfl (by decide) (by decide) bv m rfl RO7.out b7 rfl #[.string t1, .string t2] NB.out rfl (one_ss t1 t2) (by omega) (Nat.le_trans (blk_lt C6.out) D7.out.size) ?_
                    intro v9 w9 h1 h2 h3
                    obtain ⟨A9, n9, rfl⟩ := h1.form
                    have RO9 := bx h1
                    have D9 := bx (h2 (wp.heap.size + 1) w6 (D7.out.mono (blk_lt C6.out)) (Nat.le_refl _) (Nat.le_trans (blk_lt C6.out) D7.out.size))
                    have X9 := bx ((h3 w3.heap.size (blk_lt hS.2) (fun e => Nat.lt_irrefl _ (R3.out.lt _ e).2)).trans hS.2)
                    clear h1 h2 h3
                    have C9 := bx ((D9.out.block _ (Nat.lt_succ_self _)).trans C6.out)
                    have c9 : w9.cell? ⟨wp.heap.size, 2, none⟩ = some bv := blk_cell C9.out rfl
                    have f9 := blk_frozen 2 C9.out
                    clear cR7
                    show wpList _ _ K [] (Act.put _ (some 125) (.slice A9 (m + 1) n9)) w9
                    refine hK.out _ _ ?_ (fun hS2 => ?_)
                    · exact ⟨D9.out.mono (by omega), X9.out⟩
                    clear hK K hS; have hS := hS2; clear hS2
                    try simp only [Act.put, List.setIfInBounds_toArray, List.set_cons_zero, List.set_cons_succ]
                    refine takeH (i := 11) (d := 126) (v := ?_) rfl rfl (by kernel_rfl) (by kernel_rfl) (by kernel_rfl) (fun _ _ _ h => h) (Or.inl ⟨by kernel_rfl, ?_⟩) hS ?_; rotate_left 1; (focus ((intro w' hS'; clear hS'; go_simp; try with_reducible rfl); done))
                    try simp only [List.setIfInBounds_toArray, List.set_cons_zero, List.set_cons_succ]
                    refine wpAnyH_ready (rs := [12]) (by kernel_rfl) (by simp) ?_
                    refine AllReadyH.cons rfl (fun K hK => ?_) AllReadyH.nil
                    go_simp
                    refine hK.out _ _ ?_ (fun hS2 => ?_)
                    · exact ⟨hS.1.setCell (Nat.le_refl _) _, blk_other hS.2 (Nat.ne_of_gt L5.out)⟩
                    clear hK K hS; have hS := hS2; clear hS2
                    try simp only [Act.put, List.setIfInBounds_toArray, List.set_cons_zero, List.set_cons_succ]
                    refine wpAnyH_done (by kernel_rfl) ?_ _
                    clear c9 f9 hS0 hS cR
                    obtain ⟨w8, hw8⟩ : ∃ w8, w8 = w9.setCell ⟨wp.heap.size, 2, none⟩ (.slice A9 (m + 1) n9) := ⟨_, rfl⟩
                    have u8 := updC (j := 2) C9.out (.slice A9 (m + 1) n9)
                    rw [← hw8] at u8 ⊢
                    have C8 := bx u8.same
                    have RO8 := bx (RO9.out.upd u8 (by omega))
                    have D8 := bx (D53.out.trans (((D6.out.mono (Nat.le_of_lt L5.out)).trans ((D9.out.mono (by omega)).trans (u8.below (Nat.le_refl _))))))
                    clear hw8 u8
                    go_wp2_with fail
                    go_roundw
                    case rel => exact ⟨m + 1, _, by omega, by first | rfl | go_num, D8.out, C8.out, RO8.out⟩
                    case measure => simp only [intOf]; omega
                  exact AllReadyH.nil
                · have hlt3' : ¬ (m : Int) < bn := by omega
                  obtain rfl : m = bn := by omega
                  obtain ⟨A3, n3, rfl⟩ := R3.out.form
                  have RP3 := bx (RO.out.kept D3.out)
                  have cP : w3.cell? ⟨w.heap.size + 2, 5, none⟩ = some pv := blk_cell OW3.out.2.2.2 rfl
                  have hk16 : k ≤ 4294967296 := by omega
                  go_wp2_with (first
                    | ((with_reducible refine at_load 129 ?_); go_must (refine load_all 158 (.tmp 7) rfl rfl rfl C3.out Try.underlying158 rfl (pk_is _ _ _) ?_))
                    | ((with_reducible refine at_bs 130 ?_); go_must (refine wpList_bs1 rfl 71 158 (.tmp 129) rfl #[.string t, .int .i64 cnt, .slice A3 m n3] rfl _ 3 48 Try.underlying71 infoPack rfl (by decide) (by decide) ?_; intro w6 b6 hw6 hb6; have NB := bx (show w6.heap[b6]? = some (.cells #[.string t, .int .i64 cnt, .slice A3 m n3] 158 (0, 0)) by rw [← hw6, ← hb6]; exact blk_new _ _); have RP6 := bx (show RowO w6 (w.heap.size + 3) 158 3 pv k by rw [← hw6]; exact RP3.out.alloc _); have D6 := bx (show Below w3.heap.size w3 w6 by rw [← hw6]; exact (Below.refl _ _).alloc (Nat.le_refl _) _); clear hw6 hb6 cP))
                    | ((with_reducible refine at_call 131 ?_); go_must (refine wpList_ap1 rfl (.tmp 128) (.tmp 130) 71 rfl (w.heap.size + 3) 158 _ 3 48 Try.underlying71 infoPack rfl (by decide) (by decide) pv k rfl RP6.out b6 rfl #[.string t, .int .i64 cnt, .slice A3 m n3] NB.out rfl (one_pk _ _ _ _ _) hk16 (Nat.le_trans OW3.out.lt D6.out.size) ?_; intro v9 w9 g1 g2 _; obtain ⟨A9, n9, rfl⟩ := g1.form; have RP9 := bx g1; have D9 := bx (g2 (w.heap.size + 3) w3 (D6.out.mono OW3.out.lt) (Nat.le_refl _) (Nat.le_trans OW3.out.lt D6.out.size)); clear g1 g2; have C9 := bx ((D9.out.block _ (Nat.lt_succ_self _)).trans OW3.out.2.2.2); have c9 : w9.cell? ⟨w.heap.size + 2, 5, none⟩ = some pv := blk_cell C9.out rfl; have f9 := blk_frozen 5 C9.out)))
                  go_roundw
                  case rel => exact ⟨k + 1, _, by omega, by first | rfl | go_num, OW3.out.store5 D9.out (updC (j := 5) C9.out (.slice A9 (k + 1) n9)), RP9.out.upd (updC (j := 5) C9.out (.slice A9 (k + 1) n9)) (by omega), HKN2.out⟩
                  case measure => simp only [intOf]; omega
          · have hlt' : ¬ (k : Int) < pn := by omega
            obtain rfl : k = pn := by omega
            have y5 := blk_cell OW.out.2.1 HCB.out.2.2.2.2.2
            go_wp2_with (first
              | ((with_reducible refine at_load 133 ?_); go_must (refine load_all 73 (.tmp 4) rfl rfl rfl OW.out.2.2.2 Try.underlying73 rfl (by kernel_rfl) ?_))
              | ((with_reducible refine at_store (.tmp 2) (.tmp 133) ?_); go_must (obtain ⟨A2, c2, rfl⟩ := RO.out.form; refine store_all (cs := bodyC g ep wi st (.slice A1 j n1c) (.slice A2 k c2)) 73 (.tmp 2) (.tmp 133) rfl rfl rfl rfl OW.out.2.2.1 (rbody_is _ _ _ _ _ _ _ _ _ _) rfl (body_one _ _ _ _ _ _ _ _ _ _) ?_; intro w9 hu9; have B9 := bx (OW.out.1.trans (hu9.below (by omega))); have R9 := bx hu9.same; clear hu9)))
            refine bodyPost_ret (results_ct (cs := bodyC g ep wi st (.slice A1 j n1c) (.slice A2 k c2)) rfl _ _ (w.heap.size + 1) 73 _ _ rfl rfl R9.out Try.underlying73 rfl (rbody_is _ _ _ _ _ _ _ _ _ _)) rfl ?_
            exact HOUT.out _ _ _ _ _ _ _ _ (.inr ⟨rfl, hrn, hpn, HALL.out⟩) B9.out
  · have ways : ((12 : Int) < rn) ∨ (¬ (12 : Int) < rn ∧ (16 : Int) < pn) := by omega
    clear hfew HF1 HF2 HF3 HF4
    rcases ways with h1 | ⟨h1, h2⟩
    all_goals
      go_enter Try.func36, Try.ntmps36
      go_upto_region 1 with fail
      rw [LIT.out]
      clear LIT
      go_upto_region 2 with (first
        | ((with_reducible refine at_build 18 ?_); go_must (refine wpList_build2 rfl 73 [(0, .tmp 11), (1, .tmp 13), (2, .tmp 15), (3, .tmp 17)] rfl _ rfl _ (rbody_built g ep wi st) ?_))
        | ((with_reducible refine at_store (.tmp 4) (.tmp 18) ?_); go_must (refine store_all (cs := bodyC g ep wi st (.slice none 0 0) (.slice none 0 0)) 73 (.tmp 4) (.tmp 18) rfl rfl rfl rfl (blk_new w0 _) (rbody_is _ _ _ _ _ _ _ _ _ _) rfl (body_one _ _ _ _ _ _ _ _ _ _) ?_; intro w1 hu1; have C1 := bx hu1.same; have D1 := bx (((Below.refl w0.heap.size w0).alloc (Nat.le_refl _) _).trans (hu1.below (Nat.le_refl _))); clear hu1)))
      have OW : Bx (OwnW w w1 CB g ep wi st (.slice none 0 0) (.slice none 0 0)) := ⟨B0.out.trans (D1.out.mono B0.out.size), (D1.out.block _ (blk_lt K0.out)).trans K0.out, (D1.out.block _ (blk_lt K1.out)).trans K1.out, by have := C1.out; rw [SZ.out] at this; exact this⟩
      rw [SZ.out]
      have y4 := blk_cell OW.out.2.1 HCB.out.2.2.2.2.1
      have y5 := blk_cell OW.out.2.1 HCB.out.2.2.2.2.2
      clear C1 D1 K0 K1 B0 z0 z1 z2 z3 SZ
      go_wp2_with (first
        | ((with_reducible refine at_load 29 ?_); go_must (refine load_all 73 (.tmp 4) rfl rfl rfl OW.out.2.2.2 Try.underlying73 rfl (by kernel_rfl) ?_))
        | ((with_reducible refine at_store (.tmp 2) (.tmp 29) ?_); go_must (refine store_all (cs := bodyC g ep wi st (.slice none 0 0) (.slice none 0 0)) 73 (.tmp 2) (.tmp 29) rfl rfl rfl rfl OW.out.2.2.1 (rbody_is _ _ _ _ _ _ _ _ _ _) rfl (body_one _ _ _ _ _ _ _ _ _ _) ?_; intro w9 hu9; have B9 := bx (OW.out.1.trans (hu9.below (by omega))); have R9 := bx hu9.same; clear hu9)))
      refine bodyPost_ret (results_ct (cs := bodyC g ep wi st (.slice none 0 0) (.slice none 0 0)) rfl _ _ (w.heap.size + 1) 73 _ _ rfl rfl R9.out Try.underlying73 rfl (rbody_is _ _ _ _ _ _ _ _ _ _)) rfl ?_
      exact HOUT.out _ _ _ _ _ _ _ _ (.inl rfl) B9.out
end Go.Proofs.Ythnommoljikaiaa
