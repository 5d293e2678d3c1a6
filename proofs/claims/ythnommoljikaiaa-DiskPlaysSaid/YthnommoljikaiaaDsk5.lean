/- The walk over Write. -/
import Derived.Test.YthnommoljikaiaaDsk4
set_option linter.unusedSimpArgs false
set_option linter.unusedVariables false
namespace Go.Proofs.Ythnommoljikaiaa
open Go.RowKit

/-- A sector that begins so, zeros behind. -/
def padTo (bs : List Int) : List Int := bs ++ List.replicate (256 - bs.length) 0
theorem padTo_ok {bs : List Int} (h : bs.length ≤ 256) (hB : IsB bs) : SecOk (padTo bs) := ⟨by rw [padTo, List.length_append, List.length_replicate]; omega, isB_append hB (isB_zeros _)⟩
/-- What a write of a sector comes to. -/
def writeOf (st : DSt) (i : Int) (bs : List Int) : DSt × Int :=
  if mayOf st i ≠ 0 then (st, mayOf st i) else if 256 < bs.length then (st, 2)
  else ({ st with left := (callOf st.left st.down).1, down := (callOf st.left st.down).2.1, und := st.und ++ [(i, padTo bs)] }, (callOf st.left st.down).2.2)
theorem wInfo : (Try.prog.info? 142).map (fun i => (i.zero, i.size, i.bytes)) = some (some (.agg (wCells 0 zeros256)), 257, 264) := by kernel_rfl
theorem wbuilt (i : Int) : Try.prog.built 142 [(0, .int .i64 i)] = some (wCells i zeros256) := by kernel_rfl
theorem wZero : Try.zeroCells142 = wCells 0 zeros256 := by kernel_rfl
theorem putRow_w (i : Int) (bs : List Int) (h : bs.length ≤ 256) : putRow (wCells i zeros256) 1 (bs.map (Value.int .u8)) = wCells i (padTo bs) := by
  have hz : zeros256 = zeros256.take bs.length ++ zeros256.drop bs.length := (List.take_append_drop _ _).symm
  have e1 : (wCells i zeros256).toList = [.int .i64 i] ++ zeros256.map (Value.int .u8) := rfl
  rw [← splice_putRow (wCells i zeros256) 1 _ (by rw [wCells_size zeros_ok, List.length_map]; omega), e1]
  have e2 : ([Value.int .i64 i] ++ zeros256.map (Value.int .u8)).take 1 = [.int .i64 i] := rfl
  have e3 : ([Value.int .i64 i] ++ zeros256.map (Value.int .u8)).drop (1 + (bs.map (Value.int .u8)).length) = (zeros256.drop bs.length).map (Value.int .u8) := by
    rw [List.length_map, Nat.add_comm, List.singleton_append, List.drop_succ_cons, List.map_drop]
  rw [e2, e3, wCells, padTo, List.map_append, zeros256, List.drop_replicate]
  simp
theorem callOf_bounds {left : Int} (down : Bool) (h : -1 ≤ left) (h2 : left ≤ 9223372036854775807) : -1 ≤ (callOf left down).1 ∧ (callOf left down).1 ≤ 9223372036854775807 := by
  unfold callOf
  split
  · exact ⟨by decide, by decide⟩
  · split <;> exact ⟨by dsimp only; omega, by dsimp only; omega⟩
theorem wCells_one (i : Int) (s : List Int) : ∀ u ∈ (wCells i s).toList, u.oneCell' = true := by
  intro u hu
  simp only [wCells, List.mem_cons, List.mem_map] at hu
  rcases hu with rfl | ⟨x, _, rfl⟩ <;> rfl

theorem RdB.upd {w w' : World} {g : Nat} {o : Obj} {A : Option Addr} {n : Nat} {bs : List Int} (h : RdB w A n bs) (hu : Upd w w' g o) (hne : ∀ a, A = some a → 0 < n → a.block ≠ g) : RdB w' A n bs :=
  ⟨h.1, fun hn => by
    obtain ⟨b, o', rfl, hb, hc⟩ := h.2 hn
    exact ⟨b, o', rfl, by rw [hu.size]; exact hb, fun j hj => by rw [← hc j hj]; exact World.cell?_of_block (w := w) (hu.other b (hne _ rfl hn))⟩⟩
theorem ownsRow_slice {w : World} {base : Nat} {e : TypeId} {size : Nat} {v : Value} {n : Nat} {xs : List Value} (h : w.ownsRow base e size v n xs) : ∃ A m c, v = .slice A m c := by
  obtain ⟨_, h | ⟨g, cap, cur, e, _⟩⟩ := h
  · exact ⟨_, _, _, h.1⟩
  · exact ⟨_, _, _, e⟩
theorem DskAt.wrote {w w5 : World} {S : Nat → Prop} {D mb : Nat} {uv v5 : Value} {st : DSt} {i : Int} {ps : List Int} (h : DskAt w S D mb uv st) (hg : w.grownBy w5 uv.ownBlock)
    (ho : w5.ownsRow 0 142 257 v5 (st.und.length + 1) (undCells st.und ++ (wCells i ps).toList)) (hk : ∀ k, v5.ownBlock = some k → uv.ownBlock = some k ∨ w.heap.size ≤ k) (hS : ∀ k, w.heap.size ≤ k → S k) (hp : SecOk ps) :
    DskIs (w5.setCell ⟨D, 2, none⟩ v5) S D { st with und := st.und ++ [(i, ps)] } ∧ Only S w (w5.setCell ⟨D, 2, none⟩ v5) := by
  have hDl := blk_lt h.blk
  have hD5 : w5.heap[D]? = some (.cells (dCells st.n (.map (some mb)) uv st.left st.down) 63 (0, 0)) :=
    (hg.block D hDl (fun e => (h.ne_und D e.symm).1 rfl)).trans h.blk
  have hu := upd_cell hD5 (j := 2) v5
  have hne : ∀ k, v5.ownBlock = some k → k ≠ D := fun k hk' => by
    rcases hk k hk' with h1 | h1
    · exact (h.ne_und k h1).1
    · omega
  refine ⟨⟨mb, v5, ?_⟩, ((Only.refl S w).grown hg h.inU).upd hu h.inD⟩
  obtain ⟨g, hm, hg2⟩ := h.map
  refine ⟨hu.same, ⟨g, hm.same ((hu.other mb h.ne_map).trans (hg.block mb hm.lt (fun e => (h.ne_und mb e.symm).2 rfl))), hg2⟩, ?_, h.inD, h.inM, fun k hk' => ?_, h.secs, ?_, h.lo, h.hi, h.n1, h.n2⟩
  · have e : undCells (st.und ++ [(i, ps)]) = undCells st.und ++ (wCells i ps).toList := by rw [undCells_append]; simp [undCells, wCells]
    show World.ownsRow _ _ _ _ _ (st.und ++ [(i, ps)]).length _
    rw [e, List.length_append]
    exact ownsRow_same ho fun k hk' => hu.other k (hne k hk')
  · rcases hk k hk' with h1 | h1
    · exact h.inU k h1
    · exact hS k h1
  · intro x hx
    rcases List.mem_append.1 hx with hx | hx
    · exact h.unds x hx
    · simp only [List.mem_singleton] at hx
      subst hx
      exact hp
theorem rd_ne_new {w w1 : World} {A : Option Addr} {n : Nat} {bs : List Int} (hr : RdB w A n bs) (hz : w1.heap.size = w.heap.size) : ∀ a, A = some a → 0 < n → a.block ≠ w1.heap.size := by
  intro a ha hn e
  obtain ⟨b, o, hA, hb, hc⟩ := hr.2 hn
  rw [ha] at hA
  cases hA
  change b = _ at e
  omega
theorem DskAt.ne_rd {w : World} {S : Nat → Prop} {D mb : Nat} {uv : Value} {st : DSt} (h : DskAt w S D mb uv st) {A : Option Addr} {n : Nat} {bs : List Int} (hr : RdB w A n bs) : ∀ a, A = some a → 0 < n → a.block ≠ D := by
  intro a ha hn e
  obtain ⟨b, o, hA, hb, hc⟩ := hr.2 hn
  rw [ha] at hA
  cases hA
  change b = D at e
  subst e
  have h1 := hc 0 hn
  rw [Nat.add_zero, cell_of_row w b o _ _ (0, 0) h.blk] at h1
  have hor : o < 5 := by
    have := (Array.getElem?_eq_some_iff.1 h1).1
    simpa [dCells] using this
  match o, hor with
  | 0, _ => simp [dCells] at h1
  | 1, _ => simp [dCells] at h1
  | 2, _ =>
    simp only [dCells] at h1
    obtain ⟨_, h2 | ⟨g, cap, cur, e, _⟩⟩ := h.und
    · rw [h2.1] at h1; simp at h1
    · rw [e] at h1; simp at h1
  | 3, _ => simp [dCells] at h1
  | 4, _ => simp [dCells] at h1

set_option maxRecDepth 100000 in
set_option maxHeartbeats 2000000 in
theorem dwrite_any (w : World) (S : Nat → Prop) (D : Nat) (st : DSt) (i : Int) (A : Option Addr) (n cap : Nat) (bs : List Int) (h : DskIs w S D st) (hS : ∀ k, w.heap.size ≤ k → S k) (hrd : RdB w A n bs) (hB : IsB bs) (hu : st.und.length ≤ 100000) :
    Calls Try.prog 19 #[.pointer (some ⟨D, 0, none⟩), .int .i64 i, .slice A n cap] w fun e w' => e = .returned (.int .i64 (writeOf st i bs).2) ∧ DskIs w' S D (writeOf st i bs).1 ∧ Only S w w' := by
  obtain ⟨mb, uv, hd⟩ := h
  have HMAY := bx (may_any w D st _ uv i hd.blk hd.n1)
  have hl := hrd.1
  have HD := bx hd; have HSS := bx hS; have HRD := bx hrd; have HBB := bx hB
  clear hd hS hrd hB
  by_cases hm : mayOf st i = 0
  · rw [hm] at HMAY
    by_cases hbig : 256 < bs.length
    · have HW : Bx (writeOf st i bs = (st, 2)) := ⟨by rw [writeOf, if_neg (fun h => h hm), if_pos hbig]⟩
      have hbig' : (256 : Int) < n := by omega
      clear hm hl
      go_enter Try.func19, Try.ntmps19
      go_wp2_with fail
      refine HMAY.out.mono ?_
      rintro e w' ⟨rfl, rfl⟩
      go_wp2_with fail
      go_ret
      exact ⟨by rw [HW.out]; rfl, by rw [HW.out]; exact ⟨mb, uv, HD.out⟩, Only.refl _ _⟩
    · have HW : Bx (writeOf st i bs = ({ st with left := (callOf st.left st.down).1, down := (callOf st.left st.down).2.1, und := st.und ++ [(i, padTo bs)] }, (callOf st.left st.down).2.2)) := ⟨by rw [writeOf, if_neg (fun h => h hm), if_neg hbig]⟩
      have hbig' : ¬ (256 : Int) < n := by omega
      have HC := bx (call_any w D st.n (.map (some mb)) uv st.left st.down HD.out.blk HD.out.lo HD.out.hi)
      have HCB := bx (callOf_bounds st.down HD.out.lo HD.out.hi)
      have HPO := bx (padTo_ok (by omega) HBB.out)
      have HPW := bx (putRow_w i bs (by omega))
      have HL := bx hl
      have HN : Bx (n ≤ 256) := ⟨by omega⟩
      generalize callOf st.left st.down = cl at *
      obtain ⟨left', down', code⟩ := cl
      dsimp only at HC HCB HW
      generalize padTo bs = ps at *
      clear hm hl hbig
      have sl := arr_slice_all (t := 140) Try.underlying140 Try.sizeOf5
      go_enter Try.func19, Try.ntmps19
      go_wp2_with fail
      refine HMAY.out.mono ?_
      rintro e w' ⟨rfl, rfl⟩
      go_wp2_with fail
      refine HC.out.mono ?_
      rintro e w1 ⟨rfl, hu1⟩
      have HD1 := bx (HD.out.upd hu1 HCB.out.1 HCB.out.2)
      have O1 := bx ((Only.refl S w).upd hu1 HD.out.inD)
      have hrd1 := HRD.out.upd hu1 (HD.out.ne_rd HRD.out)
      have HRD1 := bx (hrd1.below ((Below.refl _ _).alloc (Nat.le_refl _) (.cells Try.zeroCells142 142)))
      have HZ1 := bx hu1.size
      have hin := blk_new w1 (.cells Try.zeroCells142 142)
      rw [wZero] at hin
      have HIN : Bx ((w1.alloc (.cells Try.zeroCells142 142)).heap[w1.heap.size]? = some (.cells (wCells 0 zeros256) 142 (0, 0))) := ⟨by rw [wZero]; exact hin⟩
      clear hu1 hrd1 hin
      go_wp2_with (first
        | ((with_reducible refine at_build 22 ?_); go_must (refine wpList_build2 rfl 142 [(0, .tmp 21)] rfl _ rfl _ (wbuilt i) ?_))
        | ((with_reducible refine at_store (.tmp 9) (.tmp 22) ?_); go_must (refine wpList_store_agg rfl 142 (.tmp 9) (.tmp 22) rfl w1.heap.size 0 (wCells i zeros256) rfl rfl 142 (wCells 0 zeros256) HIN.out (by rw [wCells_size zeros_ok]; exact wrInfo) (by rw [wCells_size zeros_ok, wCells_size zeros_ok]; decide) (wCells_one _ _) (wCells i zeros256) (putRow_all _ _ (by rw [Array.length_toList, wCells_size zeros_ok, wCells_size zeros_ok])) ?_; intro w2 hu2; have P2 := bx hu2.same; have B2 := bx (show Below w1.heap.size w1 w2 from ((Below.refl _ _).alloc (Nat.le_refl _) _).trans (hu2.below (Nat.le_refl _))); have HRD2 := bx (HRD1.out.upd hu2 (rd_ne_new HRD.out HZ1.out)); clear hu2))
        | ((with_reducible refine at_call 26 ?_); go_must (refine wpList_copyB rfl (.tmp 24) (.tmp 25) rfl w1.heap.size 1 256 256 rfl A n cap bs rfl HRD2.out (wCells i zeros256) 142 P2.out HN.out (by rw [wCells_size zeros_ok]; have := HN.out; omega) ?_; intro w3 hu3; have hq3 := hu3.same; rw [HPW.out] at hq3; have P3 := bx hq3; have B3 := bx (B2.out.trans (hu3.below (Nat.le_refl _))); clear hu3 hq3)))
      have HD3 := bx (HD1.out.kept B3.out); have O3 := bx (O1.out.trans (only_of_below B3.out))
      have cD : w3.cell? ⟨D, 2, none⟩ = some uv := blk_cell HD3.out.blk rfl
      have fD : w3.frozen? ⟨D, 2, none⟩ = false := blk_frozen 2 HD3.out.blk
      have EW : Bx ((wCells i ps).extract 0 (0 + 257) = wCells i ps) := ⟨by rw [← wCells_size (at_ := i) HPO.out, Nat.zero_add, Array.extract_size]⟩
      obtain ⟨i0, hi, hz0, hz1, hz2⟩ := info_parts wInfo
      have HI0 := bx hi; have HI1 := bx hz0; have HI2 := bx hz1; have HI3 := bx hz2
      have hlu := HD.out.und.1
      have HUL : Bx (st.und.length + 1 ≤ maxLen ∧ (st.und.length + 1) * 264 ≤ 140737488355328) := ⟨by simp only [maxLen]; omega, by omega⟩
      have HKB : Bx (∀ w', Below w3.heap.size w3 w' → w'.ownsRow 0 142 257 uv st.und.length (undCells st.und)) := ⟨fun w' hb => (HD3.out.kept hb).und⟩
      have HB0 := bx ((Below.refl w3.heap.size w3).drew)
      have HB1 := bx (HB0.out.alloc (Nat.le_refl _) (.cells (wCells i ps) 142))
      have HNW : Bx (∀ j u, (wCells i ps).toList[j]? = some u → (w3.drew.alloc (.cells (wCells i ps) 142)).cell? ((⟨w3.drew.heap.size, 0, none⟩ : Addr).add j) = some u) :=
        ⟨fun j u hj => by rw [addr_add, Nat.zero_add]; exact blk_cell (blk_new w3.drew _) (by rw [Array.getElem?_toList] at hj; exact hj)⟩
      have HCD : Bx (∀ w', (w3.drew.alloc (.cells (wCells i ps) 142)).grownBy w' uv.ownBlock → w'.heap[D]? = some (.cells (dCells st.n (.map (some mb)) uv left' down') 63 (0, 0))) :=
        ⟨fun w' hg => (hg.block D (by have := blk_lt HD3.out.blk; simp; omega) (fun e => (HD3.out.ne_und D e.symm).1 rfl)).trans ((HB1.out.block D (blk_lt HD3.out.blk)).trans HD3.out.blk)⟩
      clear hi hz0 hz1 hz2 hlu
      have HS3 : Bx (∀ k, (w3.drew.alloc (.cells (wCells i ps) 142)).heap.size ≤ k → S k) := ⟨fun k hk => HSS.out k (by have h1 := HB1.out.size; have h2 := B3.out.size; have h3 := HZ1.out; omega)⟩
      have cDa : (w3.alloc (.cells (wCells i ps) 142)).cell? ⟨D, 2, none⟩ = some uv := blk_cell ((HB1.out.block D (blk_lt HD3.out.blk)).trans HD3.out.blk) rfl
      go_wp2_with fail
      refine wp_region_any (by kernel_rfl) ?_
      change wpAny _ _ _ _ _ _ _ (World.drew _)
      refine wpAny_take (i := 0) (v := ?_) rfl (by kernel_rfl) (by kernel_rfl) (by kernel_rfl) (fun _ _ _ h => h) (Or.inl ⟨by kernel_rfl, ?_⟩) ?_; rotate_left 1; (focus (intro w; go_simp; try with_reducible rfl; done))
      try simp only [Act.put, List.setIfInBounds_toArray, List.set_cons_zero, List.set_cons_succ]
      refine wpAny_take (i := 1) (v := ?_) rfl (by kernel_rfl) (by kernel_rfl) (by kernel_rfl) (fun _ _ _ h => h) (Or.inl ⟨by kernel_rfl, ?_⟩) ?_; rotate_left 1; (focus (intro w; go_simp; try with_reducible rfl; done))
      try simp only [Act.put, List.setIfInBounds_toArray, List.set_cons_zero, List.set_cons_succ]
      refine wpAny_take (i := 2) (v := ?_) rfl (by kernel_rfl) (by kernel_rfl) (by kernel_rfl) (fun _ _ _ h => h) (Or.inl ⟨by kernel_rfl, ?_⟩) ?_; rotate_left 1; (focus (intro w; go_simp; try with_reducible rfl; done))
      try simp only [Act.put, List.setIfInBounds_toArray, List.set_cons_zero, List.set_cons_succ]
      refine wpAny_take (i := 3) (v := ?_) rfl (by kernel_rfl) (by kernel_rfl) (by kernel_rfl) (fun _ _ _ h => h) (Or.inl ⟨by kernel_rfl, ?_⟩) ?_; rotate_left 1; (focus (intro w; go_simp; try with_reducible rfl; done))
      try simp only [Act.put, List.setIfInBounds_toArray, List.set_cons_zero, List.set_cons_succ]
      refine wpAny_ready (rs := [4, 5]) (by kernel_rfl) (by simp) ?_
      refine AllReady.cons rfl (fun K hK => ?_) ?_
      · go_simp
        refine hK _ _ ?_; clear hK K
        try simp only [Act.put, List.setIfInBounds_toArray, List.set_cons_zero, List.set_cons_succ]
        refine wpAny_ready (rs := [5]) (by kernel_rfl) (by simp) ?_
        refine AllReady.cons rfl (fun K hK => ?_) ?_
        · refine step_load_agg rfl 142 (.tmp 9) rfl w1.heap.size 0 rfl 142 (wCells i ps) 257 _ P3.out Try.underlying142 rfl wrInfo (by rw [wCells_size HPO.out]; decide) (wCells i ps) EW.out ?_
          refine hK _ _ ?_; clear hK K
          try simp only [Act.put, List.setIfInBounds_toArray, List.set_cons_zero, List.set_cons_succ]
          refine wpAny_ready (rs := [6]) (by kernel_rfl) (by simp) ?_
          refine AllReady.cons rfl (fun K hK => ?_) ?_
          · refine step_build1 rfl 61 142 (.tmp 32) rfl (wCells i ps) rfl i0 _ Try.underlying61 HI0.out HI1.out (by rw [wCells_size HPO.out]; exact HI2.out) (by rw [wCells_size HPO.out]; decide) (by rw [wCells_size HPO.out]; decide) ?_
            refine hK _ _ ?_; clear hK K
            try simp only [Act.put, List.setIfInBounds_toArray, List.set_cons_zero, List.set_cons_succ]
            refine wpAny_ready (rs := [7]) (by kernel_rfl) (by simp) ?_
            refine AllReady.cons rfl (fun K hK => ?_) ?_
            · refine step_append_S rfl (.tmp 31) (.tmp 33) 61 rfl 142 i0 _ 257 264 Try.underlying61 HI0.out HI1.out HI2.out HI3.out (by exact wCells_size zeros_ok) (by decide) uv st.und.length (undCells st.und) rfl ⟨w3.drew.heap.size, 0, none⟩ 1 1 (wCells i ps).toList rfl (by rw [Array.length_toList, wCells_size HPO.out]) (wCells_one _ _) HUL.out.1 HUL.out.2 (HKB.out _ HB1.out) HNW.out ?_
              intro v5 w5 ho5 hg5 hk5
              obtain ⟨A5, n5, q5, rfl⟩ := ownsRow_slice ho5
              have c5 : w5.cell? ⟨D, 2, none⟩ = some uv := blk_cell (HCD.out w5 hg5) rfl
              have f5 : w5.frozen? ⟨D, 2, none⟩ = false := blk_frozen 2 (HCD.out w5 hg5)
              have HO5 := bx ho5; have HG5 := bx hg5; have HK5 := bx hk5
              clear ho5 hg5 hk5
              refine hK _ _ ?_; clear hK K
              try simp only [Act.put, List.setIfInBounds_toArray, List.set_cons_zero, List.set_cons_succ]
              refine wpAny_take (i := 8) (v := ?_) rfl (by kernel_rfl) (by kernel_rfl) (by kernel_rfl) (fun _ _ _ h => h) (Or.inl ⟨by kernel_rfl, ?_⟩) ?_; rotate_left 1; (focus (intro w; go_simp; try with_reducible rfl; done))
              try simp only [Act.put, List.setIfInBounds_toArray, List.set_cons_zero, List.set_cons_succ]
              refine wpAny_take (i := 9) (v := ?_) rfl (by kernel_rfl) (by kernel_rfl) (by kernel_rfl) (fun _ _ _ h => h) (Or.inl ⟨by kernel_rfl, ?_⟩) ?_; rotate_left 1; (focus (intro w; go_simp; try with_reducible rfl; done))
              try simp only [Act.put, List.setIfInBounds_toArray, List.set_cons_zero, List.set_cons_succ]
              refine wpAny_ready (rs := [10]) (by kernel_rfl) (by simp) ?_
              refine AllReady.cons rfl (fun K hK => ?_) ?_
              · go_simp
                refine hK _ _ ?_; clear hK K
                try simp only [Act.put, List.setIfInBounds_toArray, List.set_cons_zero, List.set_cons_succ]
                refine wpAny_done (by kernel_rfl) ?_ _
                have HF := bx ((HD3.out.kept HB1.out).wrote HG5.out HO5.out HK5.out HS3.out HPO.out)
                go_wp2_with fail
                go_ret
                exact ⟨by rw [HW.out]; rfl, by rw [HW.out]; exact HF.out.1, (O3.out.trans (only_of_below HB1.out)).trans HF.out.2⟩
              exact AllReady.nil
            exact AllReady.nil
          exact AllReady.nil
        exact AllReady.nil
      refine AllReady.cons rfl (fun K hK => ?_) ?_
      · refine step_load_agg rfl 142 (.tmp 9) rfl w1.heap.size 0 rfl 142 (wCells i ps) 257 _ P3.out Try.underlying142 rfl wrInfo (by rw [wCells_size HPO.out]; decide) (wCells i ps) EW.out ?_
        refine hK _ _ ?_; clear hK K
        try simp only [Act.put, List.setIfInBounds_toArray, List.set_cons_zero, List.set_cons_succ]
        refine wpAny_ready (rs := [4, 6]) (by kernel_rfl) (by simp) ?_
        refine AllReady.cons rfl (fun K hK => ?_) ?_
        · go_simp
          refine hK _ _ ?_; clear hK K
          try simp only [Act.put, List.setIfInBounds_toArray, List.set_cons_zero, List.set_cons_succ]
          refine wpAny_ready (rs := [6]) (by kernel_rfl) (by simp) ?_
          refine AllReady.cons rfl (fun K hK => ?_) ?_
          · refine step_build1 rfl 61 142 (.tmp 32) rfl (wCells i ps) rfl i0 _ Try.underlying61 HI0.out HI1.out (by rw [wCells_size HPO.out]; exact HI2.out) (by rw [wCells_size HPO.out]; decide) (by rw [wCells_size HPO.out]; decide) ?_
            refine hK _ _ ?_; clear hK K
            try simp only [Act.put, List.setIfInBounds_toArray, List.set_cons_zero, List.set_cons_succ]
            refine wpAny_ready (rs := [7]) (by kernel_rfl) (by simp) ?_
            refine AllReady.cons rfl (fun K hK => ?_) ?_
            · refine step_append_S rfl (.tmp 31) (.tmp 33) 61 rfl 142 i0 _ 257 264 Try.underlying61 HI0.out HI1.out HI2.out HI3.out (by exact wCells_size zeros_ok) (by decide) uv st.und.length (undCells st.und) rfl ⟨w3.drew.heap.size, 0, none⟩ 1 1 (wCells i ps).toList rfl (by rw [Array.length_toList, wCells_size HPO.out]) (wCells_one _ _) HUL.out.1 HUL.out.2 (HKB.out _ HB1.out) HNW.out ?_
              intro v5 w5 ho5 hg5 hk5
              obtain ⟨A5, n5, q5, rfl⟩ := ownsRow_slice ho5
              have c5 : w5.cell? ⟨D, 2, none⟩ = some uv := blk_cell (HCD.out w5 hg5) rfl
              have f5 : w5.frozen? ⟨D, 2, none⟩ = false := blk_frozen 2 (HCD.out w5 hg5)
              have HO5 := bx ho5; have HG5 := bx hg5; have HK5 := bx hk5
              clear ho5 hg5 hk5
              refine hK _ _ ?_; clear hK K
              try simp only [Act.put, List.setIfInBounds_toArray, List.set_cons_zero, List.set_cons_succ]
              refine wpAny_take (i := 8) (v := ?_) rfl (by kernel_rfl) (by kernel_rfl) (by kernel_rfl) (fun _ _ _ h => h) (Or.inl ⟨by kernel_rfl, ?_⟩) ?_; rotate_left 1; (focus (intro w; go_simp; try with_reducible rfl; done))
              try simp only [Act.put, List.setIfInBounds_toArray, List.set_cons_zero, List.set_cons_succ]
              refine wpAny_take (i := 9) (v := ?_) rfl (by kernel_rfl) (by kernel_rfl) (by kernel_rfl) (fun _ _ _ h => h) (Or.inl ⟨by kernel_rfl, ?_⟩) ?_; rotate_left 1; (focus (intro w; go_simp; try with_reducible rfl; done))
              try simp only [Act.put, List.setIfInBounds_toArray, List.set_cons_zero, List.set_cons_succ]
              refine wpAny_ready (rs := [10]) (by kernel_rfl) (by simp) ?_
              refine AllReady.cons rfl (fun K hK => ?_) ?_
              · go_simp
                refine hK _ _ ?_; clear hK K
                try simp only [Act.put, List.setIfInBounds_toArray, List.set_cons_zero, List.set_cons_succ]
                refine wpAny_done (by kernel_rfl) ?_ _
                have HF := bx ((HD3.out.kept HB1.out).wrote HG5.out HO5.out HK5.out HS3.out HPO.out)
                go_wp2_with fail
                go_ret
                exact ⟨by rw [HW.out]; rfl, by rw [HW.out]; exact HF.out.1, (O3.out.trans (only_of_below HB1.out)).trans HF.out.2⟩
              exact AllReady.nil
            exact AllReady.nil
          exact AllReady.nil
        refine AllReady.cons rfl (fun K hK => ?_) ?_
        · refine step_build1 rfl 61 142 (.tmp 32) rfl (wCells i ps) rfl i0 _ Try.underlying61 HI0.out HI1.out (by rw [wCells_size HPO.out]; exact HI2.out) (by rw [wCells_size HPO.out]; decide) (by rw [wCells_size HPO.out]; decide) ?_
          refine hK _ _ ?_; clear hK K
          try simp only [Act.put, List.setIfInBounds_toArray, List.set_cons_zero, List.set_cons_succ]
          refine wpAny_ready (rs := [4]) (by kernel_rfl) (by simp) ?_
          refine AllReady.cons rfl (fun K hK => ?_) ?_
          · go_simp
            refine hK _ _ ?_; clear hK K
            try simp only [Act.put, List.setIfInBounds_toArray, List.set_cons_zero, List.set_cons_succ]
            refine wpAny_ready (rs := [7]) (by kernel_rfl) (by simp) ?_
            refine AllReady.cons rfl (fun K hK => ?_) ?_
            · refine step_append_S rfl (.tmp 31) (.tmp 33) 61 rfl 142 i0 _ 257 264 Try.underlying61 HI0.out HI1.out HI2.out HI3.out (by exact wCells_size zeros_ok) (by decide) uv st.und.length (undCells st.und) rfl ⟨w3.drew.heap.size, 0, none⟩ 1 1 (wCells i ps).toList rfl (by rw [Array.length_toList, wCells_size HPO.out]) (wCells_one _ _) HUL.out.1 HUL.out.2 (HKB.out _ HB1.out) HNW.out ?_
              intro v5 w5 ho5 hg5 hk5
              obtain ⟨A5, n5, q5, rfl⟩ := ownsRow_slice ho5
              have c5 : w5.cell? ⟨D, 2, none⟩ = some uv := blk_cell (HCD.out w5 hg5) rfl
              have f5 : w5.frozen? ⟨D, 2, none⟩ = false := blk_frozen 2 (HCD.out w5 hg5)
              have HO5 := bx ho5; have HG5 := bx hg5; have HK5 := bx hk5
              clear ho5 hg5 hk5
              refine hK _ _ ?_; clear hK K
              try simp only [Act.put, List.setIfInBounds_toArray, List.set_cons_zero, List.set_cons_succ]
              refine wpAny_take (i := 8) (v := ?_) rfl (by kernel_rfl) (by kernel_rfl) (by kernel_rfl) (fun _ _ _ h => h) (Or.inl ⟨by kernel_rfl, ?_⟩) ?_; rotate_left 1; (focus (intro w; go_simp; try with_reducible rfl; done))
              try simp only [Act.put, List.setIfInBounds_toArray, List.set_cons_zero, List.set_cons_succ]
              refine wpAny_take (i := 9) (v := ?_) rfl (by kernel_rfl) (by kernel_rfl) (by kernel_rfl) (fun _ _ _ h => h) (Or.inl ⟨by kernel_rfl, ?_⟩) ?_; rotate_left 1; (focus (intro w; go_simp; try with_reducible rfl; done))
              try simp only [Act.put, List.setIfInBounds_toArray, List.set_cons_zero, List.set_cons_succ]
              refine wpAny_ready (rs := [10]) (by kernel_rfl) (by simp) ?_
              refine AllReady.cons rfl (fun K hK => ?_) ?_
              · go_simp
                refine hK _ _ ?_; clear hK K
                try simp only [Act.put, List.setIfInBounds_toArray, List.set_cons_zero, List.set_cons_succ]
                refine wpAny_done (by kernel_rfl) ?_ _
                have HF := bx ((HD3.out.kept HB1.out).wrote HG5.out HO5.out HK5.out HS3.out HPO.out)
                go_wp2_with fail
                go_ret
                exact ⟨by rw [HW.out]; rfl, by rw [HW.out]; exact HF.out.1, (O3.out.trans (only_of_below HB1.out)).trans HF.out.2⟩
              exact AllReady.nil
            exact AllReady.nil
          exact AllReady.nil
        exact AllReady.nil
      exact AllReady.nil
  · have HW : Bx (writeOf st i bs = (st, mayOf st i)) := ⟨by rw [writeOf, if_pos hm]⟩
    generalize mayOf st i = c at *
    have hc : (c != 0) = true := by simp [hm]
    clear hm hl
    go_enter Try.func19, Try.ntmps19
    go_wp2_with fail
    refine HMAY.out.mono ?_
    rintro e w' ⟨rfl, rfl⟩
    go_wp2_with fail
    go_ret
    exact ⟨by rw [HW.out]; rfl, by rw [HW.out]; exact ⟨mb, uv, HD.out⟩, Only.refl _ _⟩
end Go.Proofs.Ythnommoljikaiaa
