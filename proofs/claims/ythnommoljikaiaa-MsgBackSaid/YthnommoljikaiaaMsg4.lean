/- Messages: name, Text; slices of names of one's own. -/
import Derived.Test.YthnommoljikaiaaMsg3
import Derived.Great.Walk
set_option linter.unusedSimpArgs false
set_option linter.unusedVariables false
namespace Go.Proofs.Ythnommoljikaiaa
open Go.RowKit

theorem RdrL.upd' {lo : Nat} {w w' : World} {R g : Nat} {o : Obj} {bs : List Int} {bad : Int} (h : RdrL lo w R bs bad) (hu : Upd w w' g o) (hR : R < g ∨ g < lo) (hlo : lo ≤ R) : RdrL lo w' R bs bad := by
  obtain ⟨A, c, h1, h2, h3, h4, h5⟩ := h
  refine ⟨A, c, hu.blk h1 (by omega), ⟨h2.1, fun hn => ?_⟩, h3, h4, h5⟩
  obtain ⟨b, o', rfl, hb, hc⟩ := h2.2 hn
  have hlt : lo ≤ b ∧ b < R := h5 _ rfl
  refine ⟨b, o', rfl, by rw [hu.size]; exact hb, fun j hj => ?_⟩
  rw [← hc j hj]
  exact World.cell?_of_block (a := ⟨b, o' + j, none⟩) (hu.other b (by omega))
theorem u8InfoM : (Try.prog.info? 5).map (·.size) = some 1 := by kernel_rfl
/-- copy of bytes, whatever they are: one block is written. -/
theorem wpList_copyM {w : World} {ops : Array Oper} {rest : List Oper} {o : Oper} {a : Act} {Q : Exit → Act → World → Prop} (hgd : o.guard = none) (d s : Operand)
    (ho : o.op = .call { callee := .builtin .copy, args := #[d, s], argTypes := #[22, 22] })
    (g off dLen dCap : Nat) (hd : a.eval d = .slice (some ⟨g, off, none⟩) dLen dCap) (A : Option Addr) (n cap : Nat) (bs : List Int) (hs : a.eval s = .slice A n cap) (hrd : RdB w A n bs)
    (cur : Array Value) (t : TypeId) (hg : w.heap[g]? = some (.cells cur t (0, 0))) (hn : n ≤ dLen) (hfit : off + n ≤ cur.size)
    (h : ∀ w', Upd w w' g (.cells (putRow cur off (bs.map (Value.int .u8))) t (0, 0)) → wpList Try.prog ops Q rest (a.put o.dst (goInt n)) w') : wpList Try.prog ops Q (o :: rest) a w := by
  have hl := hrd.1
  by_cases h0 : n = 0
  · subst h0
    obtain rfl : bs = [] := List.eq_nil_of_length_eq_zero hl
    have hr := run_copy_none (P := Try.prog) w 22 22 o.type 5 (some ⟨g, off, none⟩) A dLen dCap 0 cap Try.underlying22 u8InfoM (by show min 0 dLen = 0; omega)
    exact Lib.wpList_copy_run w hgd d s _ _ ho _ _ hd hs hr (h _ ⟨rfl, rfl, rfl, rfl, hg, fun _ _ => rfl⟩)
  · obtain ⟨b, o', rfl, hb, hc⟩ := hrd.2 (by omega)
    have hsrc : ∀ j v, (bs.map (Value.int .u8))[j]? = some v → w.cell? ((⟨b, o', none⟩ : Addr).add j) = some v := by
      intro j v hv
      obtain ⟨hj, e⟩ := List.getElem?_eq_some_iff.1 hv
      have hj' : j < bs.length := by simpa using hj
      rw [addr_add, hc j (by omega), ← e]
      simp [List.getD_eq_getElem?_getD, List.getElem?_eq_getElem hj']
    have := wpList_copy_upd (P := Try.prog) (ops := ops) (rest := rest) (a := a) (Q := Q) hgd d s _ _ ho 5 Try.underlying22 u8InfoM g off ⟨b, o', none⟩ dLen dCap n cap hd hs cur t hg (bs.map (Value.int .u8)) (by rw [List.length_map, hl]; show n = min n dLen; omega) hsrc (by rw [List.length_map, hl]; exact hfit) (oneCell_map_int _ _)
    refine this fun w' hu => ?_
    rw [List.length_map, hl]
    exact h w' hu
/-- The name that is read. -/
def nmR (bs : List Int) (bad : Int) : List Int := rOut bs bad 16 ++ zero16.drop (rOut bs bad 16).length
theorem nmR_length (bs : List Int) (bad : Int) : (nmR bs bad).length = 16 := by
  have : (rOut bs bad 16).length ≤ 16 := rOut_m bs bad 16
  rw [nmR, List.length_append, List.length_drop]
  show _ + (16 - _) = 16
  omega
theorem zero16_isB : IsB zero16 := isB_zeros 16
theorem nmR_isB {bs : List Int} (h : IsB bs) (bad : Int) : IsB (nmR bs bad) := isB_append (rOut_isB h bad 16) (isB_drop zero16_isB _)
theorem rOut16 (bs : List Int) (bad : Int) : rOut bs bad 16 = [] ∨ (rOut bs bad 16).length = 16 := by
  unfold rOut
  split
  · exact .inl rfl
  · split
    · exact .inl rfl
    · refine .inr ?_
      rw [List.length_take]
      show min 16 bs.length = 16
      omega
theorem put_nm (bs : List Int) (bad : Int) : putRow (ints .u8 zero16) 0 ((rOut bs bad 16).map (Value.int .u8)) = ints .u8 (nmR bs bad) := by
  unfold nmR
  rcases rOut16 bs bad with h | h
  · rw [h]; rfl
  · generalize rOut bs bad 16 = l at *
    rw [putRow_all _ _ (by rw [List.length_map, h]; rfl), h]
    show _ = ints .u8 (l ++ [])
    rw [List.append_nil]
    rfl
set_option maxRecDepth 100000 in
set_option maxHeartbeats 800000 in
theorem mname_any (w : World) (R : Nat) (bs : List Int) (bad : Int) {lo : Nat} (hlo : lo ≤ R) (h : RdrL lo w R bs bad) (hbig : bs.length ≤ 35184372088832) :
    Calls Try.prog 115 #[.pointer (some ⟨R, 0, none⟩)] w fun e w' => e = .returned (.agg (ints .u8 (nmR bs bad))) ∧ RdrL lo w' R (rRest bs bad 16) (rBad bs bad 16) ∧ OnlyR R w w' := by
  have H := bx h; have RL := bx h.lt; have HM : Bx ((rOut bs bad 16).length ≤ 16) := ⟨rOut_m bs bad 16⟩; have NL := bx (nmR_length bs bad)
  obtain ⟨w0, hw0⟩ : ∃ w0, w0 = (w.alloc (.cells (ints .u8 zero16) 113)).alloc (.cells (ints .u8 zero16) 113) := ⟨_, rfl⟩
  have K0 : Bx (w0.heap[w.heap.size]? = some (.cells (ints .u8 zero16) 113 (0, 0))) := ⟨by rw [hw0]; exact heap_alloc2_old w _ _⟩
  have K1 : Bx (w0.heap[w.heap.size + 1]? = some (.cells (ints .u8 zero16) 113 (0, 0))) := ⟨by rw [hw0]; exact heap_alloc2_new w _ _⟩
  have O0 : Bx (OnlyR R w w0) := ⟨by rw [hw0]; exact ((Only.refl _ _).alloc _).alloc _⟩
  have R0 : Bx (RdrL lo w0.drew R bs bad) := ⟨by rw [hw0]; exact h.kept ((((Below.refl _ _).alloc (Nat.le_refl _) _).alloc (by simp) _).drew)⟩
  have sl := fun w' => arr_slice_all (P := Try.prog) (t := 113) Try.underlying113 Try.sizeOf5 (w.heap.size + 1) 0 w'
  have HW := bx hw0
  clear h hw0
  go_enter Try.func115, Try.ntmps115
  go_upto_region 2 with fail
  have E : (w.alloc (.cells #[.int .u8 0, .int .u8 0, .int .u8 0, .int .u8 0, .int .u8 0, .int .u8 0, .int .u8 0, .int .u8 0, .int .u8 0, .int .u8 0, .int .u8 0, .int .u8 0, .int .u8 0, .int .u8 0, .int .u8 0, .int .u8 0] 113)).alloc (.cells #[.int .u8 0, .int .u8 0, .int .u8 0, .int .u8 0, .int .u8 0, .int .u8 0, .int .u8 0, .int .u8 0, .int .u8 0, .int .u8 0, .int .u8 0, .int .u8 0, .int .u8 0, .int .u8 0, .int .u8 0, .int .u8 0] 113) = w0 := HW.out.symm
  rw [E]
  clear E HW
  have hS0 : Only (fun k => k = R ∨ k = w.heap.size + 1) w0 w0.drew := (Only.refl _ _).drew
  refine wp_region_held_drew (S := (fun w' => Only (fun k => k = R ∨ k = w.heap.size + 1) w0 w')) (by kernel_rfl) hS0 (fun hS => ?_)
  refine takeH (i := 0) (d := 4) (v := ?_) rfl rfl (by kernel_rfl) (by kernel_rfl) (by kernel_rfl) (fun _ _ _ h => h) (Or.inl ⟨by kernel_rfl, ?_⟩) hS ?_; rotate_left 1; (focus ((intro w' hS'; clear hS'; go_simp; try with_reducible rfl); done))
  try simp only [List.setIfInBounds_toArray, List.set_cons_zero, List.set_cons_succ]
  refine takeH (i := 1) (d := 5) (v := ?_) rfl rfl (by kernel_rfl) (by kernel_rfl) (by kernel_rfl) (fun _ _ _ h => h) (Or.inl ⟨by kernel_rfl, ?_⟩) hS ?_; rotate_left 1; (focus ((intro w' hS'; clear hS'; go_simp; try with_reducible rfl); done))
  try simp only [List.setIfInBounds_toArray, List.set_cons_zero, List.set_cons_succ]
  refine wpAnyH_ready (rs := [2]) (by kernel_rfl) (by simp) ?_
  refine AllReadyH.cons rfl (fun K hK => ?_) AllReadyH.nil
  go_simp
  refine (raw_any _ R bs bad 16 R0.out (by omega)).mono ?_
  rintro x w6 ⟨v, rfl, hv, hr, ho⟩
  obtain ⟨n6, hn6⟩ : ∃ n6, (rOut bs bad 16).length = n6 := ⟨_, rfl⟩
  obtain ⟨A6, c6, rfl, hr6, _, _⟩ := hv.rdn hn6
  have R6 := bx hr6; have H6 := bx hr; have O6 := bx ho; have N6 : Bx (n6 ≤ 16) := ⟨by have := HM.out; omega⟩; have P6 := bx ((ho.block _ (blk_lt K1.out) (by have := RL.out; omega)).trans K1.out)
  clear hv ho hr6 hr
  refine hK.out _ _ ?_ (fun hS2 => ?_)
  · exact hS.trans (O6.out.mono (fun k hk => .inl hk))
  clear hK K hS; have hS := hS2; clear hS2
  try simp only [Act.put, List.setIfInBounds_toArray, List.set_cons_zero, List.set_cons_succ]
  refine wpAnyH_ready (rs := [3]) (by kernel_rfl) (by simp) ?_
  refine readyH_list rfl (fun K hK => ?_) AllReadyH.nil
  refine wpList_copyM rfl (.tmp 4) (.tmp 6) rfl (w.heap.size + 1) 0 16 16 rfl A6 n6 c6 (rOut bs bad 16) rfl R6.out (ints .u8 zero16) 113 P6.out N6.out (by rw [Nat.zero_add]; exact N6.out) ?_
  intro w7 hu7
  rw [put_nm] at hu7
  show wpList _ _ K [] (Act.put _ (some 7) _) w7
  refine hK.out _ _ ?_ (fun hS2 => ?_)
  · exact hS.upd hu7 (.inr rfl)
  clear hK K hS; have hS := hS2; clear hS2
  try simp only [Act.put, List.setIfInBounds_toArray, List.set_cons_zero, List.set_cons_succ]
  refine wpAnyH_done (by kernel_rfl) ?_ _
  have K7 := bx ((hS.block _ (blk_lt K0.out) (by have := RL.out; omega)).trans K0.out)
  have O7 : Bx (OnlyR R w w7) := ⟨by
    have h9 : Only (fun k => k = R) w w6 := Only.trans (Only.trans O0.out (Only.refl _ _).drew) O6.out
    exact h9.updNew hu7 (by omega)⟩
  have P7 := bx hu7.same
  have R7 : Bx (RdrL lo w7 R (rRest bs bad 16) (rBad bs bad 16)) := ⟨H6.out.upd' hu7 (.inl (by have := RL.out; omega)) hlo⟩
  have IS : Bx ((Try.prog.info? 113).map (·.size) = some (ints .u8 (nmR bs bad)).size) := ⟨by rw [ints_size, NL.out]; exact name_info⟩
  clear hu7 hS hS0
  go_wp2_with (first
    | ((with_reducible refine at_load 8 ?_); go_must (refine load_all 113 (.tmp 3) rfl rfl rfl P7.out Try.underlying113 rfl IS.out ?_))
    | ((with_reducible refine at_store (.tmp 2) (.tmp 8) ?_); go_must (refine store_all (cs := ints .u8 (nmR bs bad)) 113 (.tmp 2) (.tmp 8) rfl rfl rfl rfl K7.out IS.out (by rw [ints_size, NL.out]; rfl) (ints_oneCell _ _) ?_; intro w9 hu9)))
  refine bodyPost_ret (v := .agg (ints .u8 (nmR bs bad))) (results_agg (cs := ints .u8 (nmR bs bad)) rfl _ _ w.heap.size 113 _ rfl hu9.same Try.underlying113 rfl IS.out) rfl ⟨rfl, ?_, ?_⟩
  · exact R7.out.upd' hu9 (.inl RL.out) hlo
  · exact O7.out.updNew hu9 (Nat.le_refl _)
end Go.Proofs.Ythnommoljikaiaa
