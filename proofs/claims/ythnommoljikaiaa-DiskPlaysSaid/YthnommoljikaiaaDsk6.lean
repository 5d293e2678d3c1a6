/- The walks over Safe and Read. -/
import Derived.Test.YthnommoljikaiaaDsk5
set_option linter.unusedSimpArgs false
set_option linter.unusedVariables false
namespace Go.Proofs.Ythnommoljikaiaa
open Go.RowKit

theorem secEx {s : List Int} (h : SecOk s) : (ints .u8 s).extract 0 (0 + 256) = ints .u8 s := ints_extract_all .u8 s 256 h.1
theorem secPut {s z : List Int} (h : SecOk s) (hz : SecOk z) : putRow (ints .u8 z) 0 (ints .u8 s).toList = ints .u8 s := putRow_all _ _ (by rw [Array.length_toList, ints_size, ints_size, h.1, hz.1])
theorem secI {s : List Int} (h : SecOk s) : (Try.prog.info? 140).map (·.size) = some (ints .u8 s).size := by rw [ints_size, h.1]; exact secInfo
theorem secFit {s z : List Int} (h : SecOk s) (hz : SecOk z) : 0 + (ints .u8 s).size ≤ (ints .u8 z).size := by rw [ints_size, ints_size, h.1, hz.1]; decide
theorem secLen {s : List Int} (h : SecOk s) : 0 + 256 ≤ (ints .u8 s).size := by rw [ints_size, h.1]; decide
theorem blk_sec {w : World} (s : List Int) : (w.alloc (.cells Try.zeroCells140 140)).heap[w.heap.size]? = some (.cells (ints .u8 zeros256) 140 (0, 0)) := by rw [← secZero]; exact blk_new w _
theorem blk_wr (w : World) : (w.alloc (.cells Try.zeroCells142 142)).heap[w.heap.size]? = some (.cells (wCells 0 zeros256) 142 (0, 0)) := by rw [← wZero]; exact blk_new w _
theorem bytesV_sec {w : World} {g : Nat} {s : List Int} {T : TypeId} (h : w.heap[g]? = some (.cells (ints .u8 s) T (0, 0))) (hs : SecOk s) : BytesV w (.slice (some ⟨g, 0, none⟩) 256 256) s :=
  ⟨some ⟨g, 0, none⟩, 256, by rw [hs.1], ⟨rfl, fun _ => ⟨g, 0, rfl, blk_lt h, fun j hj => by rw [Nat.zero_add]; exact blk_int h j hj⟩⟩, by rw [hs.1]; exact Nat.le_refl _, fun h => by cases h⟩
/-- What is handed back lies in a block that was made meanwhile, or is nil. -/
def FreshV (w : World) (v : Value) : Prop := ∀ k, v.ownBlock = some k → w.heap.size ≤ k
theorem fresh_nil (w : World) (n c : Nat) : FreshV w (.slice none n c) := fun k hk => by cases hk
theorem fresh_at {w : World} {g o n c : Nat} (h : w.heap.size ≤ g) : FreshV w (.slice (some ⟨g, o, none⟩) n c) := fun k hk => by cases hk; exact h
def safeOf (st : DSt) (i : Int) : List Int × Int := if i < 0 ∨ st.n ≤ i then ([], 2) else (st.f i, 0)
set_option maxRecDepth 100000 in
set_option maxHeartbeats 1000000 in
theorem dsafe_any (w : World) (S : Nat → Prop) (D : Nat) (st : DSt) (i : Int) (h : DskIs w S D st) :
    Calls Try.prog 21 #[.pointer (some ⟨D, 0, none⟩), .int .i64 i] w fun e w' => ∃ v, e = .returned (.tuple #[v, .int .i64 (safeOf st i).2]) ∧ BytesV w' v (safeOf st i).1 ∧ FreshV w v ∧ Below w.heap.size w w' := by
  obtain ⟨mb, uv, hd⟩ := h
  have HN := bx (none_any w D st.n (.map (some mb)) uv st.left st.down hd.blk hd.n1)
  have c0 : w.cell? ⟨D, 0, none⟩ = some (.int .i64 st.n) := blk_cell hd.blk rfl
  have c1 : w.cell? ⟨D, 1, none⟩ = some (.map (some mb)) := blk_cell hd.blk rfl
  have hlk := hd.secAt i
  have HD := bx hd
  clear hd
  by_cases h1 : i < 0
  · have HO : Bx (safeOf st i = ([], 2)) := ⟨by rw [safeOf, if_pos (.inl h1)]⟩
    go_enter Try.func21, Try.ntmps21
    go_wp2_with fail
    refine HN.out.mono ?_
    rintro e w' ⟨rfl, rfl⟩
    go_wp2_with fail
    go_ret2
    exact ⟨_, by rw [HO.out]; rfl, by rw [HO.out]; exact bytesV_nil _, fresh_nil _ _ _, Below.refl _ _⟩
  · by_cases h2 : st.n ≤ i
    · have HO : Bx (safeOf st i = ([], 2)) := ⟨by rw [safeOf, if_pos (.inr h2)]⟩
      go_enter Try.func21, Try.ntmps21
      go_wp2_with fail
      refine HN.out.mono ?_
      rintro e w' ⟨rfl, rfl⟩
      go_wp2_with fail
      go_ret2
      exact ⟨_, by rw [HO.out]; rfl, by rw [HO.out]; exact bytesV_nil _, fresh_nil _ _ _, Below.refl _ _⟩
    · have HO : Bx (safeOf st i = (st.f i, 0)) := ⟨by rw [safeOf, if_neg (by omega)]⟩
      have HF := bx (HD.out.secs i)
      have sl := arr_slice_all (t := 140) Try.underlying140 Try.sizeOf5
      generalize st.f i = s at *
      go_enter Try.func21, Try.ntmps21
      go_wp2_with fail
      refine HN.out.mono ?_
      rintro e w' ⟨rfl, rfl⟩
      go_wp2_with (first
        | ((with_reducible refine at_store (.tmp 6) (.tmp 26) ?_); go_must (refine wpList_store_agg rfl 140 (.tmp 6) (.tmp 26) rfl w.heap.size 0 (ints .u8 s) rfl rfl 140 (ints .u8 zeros256) (blk_sec s) (secI HF.out) (secFit HF.out zeros_ok) (ints_oneCell _ _) (ints .u8 s) (secPut HF.out zeros_ok) ?_; intro w2 hu2; have P2 := bx hu2.same; have B2 := bx (((Below.refl w.heap.size w).alloc (Nat.le_refl _) (.cells Try.zeroCells140 140)).trans (hu2.below (Nat.le_refl _))); clear hu2)))
      go_ret2
      exact ⟨_, by rw [HO.out]; rfl, by rw [HO.out]; exact bytesV_sec P2.out HF.out, fresh_at (Nat.le_refl _), B2.out⟩
/-- The cells of one write among those that are under way. -/
theorem und_at {u : List (Int × List Int)} (h : ∀ x ∈ u, SecOk x.2) : ∀ (k : Nat) (hk : k < u.length), ((undCells u).drop (k * 257)).take 257 = (wCells u[k].1 u[k].2).toList
  | k, hk => by
    have e : u = u.take k ++ (u[k] :: u.drop (k + 1)) := by rw [List.getElem_cons_drop, List.take_append_drop]
    have h1 : (undCells (u.take k)).length = k * 257 := by rw [undCells_length fun x hx => h x (List.mem_of_mem_take hx), List.length_take, Nat.min_eq_left (by omega)]
    have h2 := (h u[k] (List.getElem_mem hk)).1
    have e2 : undCells u = undCells (u.take k) ++ ((wCells u[k].1 u[k].2).toList ++ undCells (u.drop (k + 1))) := by
      have e3 : ∀ (x : Int × List Int) (t : List (Int × List Int)), undCells (x :: t) = (wCells x.1 x.2).toList ++ undCells t := fun x t => by simp [undCells, wCells]
      rw [← e3, ← undCells_append]
      exact congrArg undCells e
    rw [e2, List.drop_append_of_le_length (by omega), List.drop_of_length_le (by omega), List.nil_append, List.take_append_of_le_length (by simp [wCells, h2]), List.take_of_length_le (by simp [wCells, h2])]
set_option maxRecDepth 100000 in
theorem und_extract {w : World} {uv : Value} {u : List (Int × List Int)} (h : w.ownsRow 0 142 257 uv u.length (undCells u)) (hs : ∀ x ∈ u, SecOk x.2) (hne : 0 < u.length) :
    ∃ g cap cur, uv = .slice (some ⟨g, 0, none⟩) u.length cap ∧ w.heap[g]? = some (.cells cur 142 (0, 0)) ∧ u.length ≤ cap ∧ ∀ k (hk : k < u.length), k * 257 + 257 ≤ cur.size ∧ cur.extract (k * 257) (k * 257 + 257) = wCells u[k].1 u[k].2 := by
  obtain ⟨_, ⟨_, h0⟩ | ⟨g, cap, cur, e, _, hh, hn, _, hsz, htk⟩⟩ := h
  · omega
  · refine ⟨g, cap, cur, e, hh, hn, fun k hk => ?_⟩
    have hb : (k + 1) * 257 ≤ u.length * 257 := by omega
    have hc : u.length * 257 ≤ cap * 257 := by omega
    refine ⟨by omega, ?_⟩
    have h1 := und_at hs k hk
    rw [← htk, List.drop_take, List.take_take, Nat.min_eq_left (by omega)] at h1
    apply Array.toList_inj.1
    rw [← h1, Array.toList_extract, List.extract_eq_take_drop]
    rw [show k * 257 + 257 - k * 257 = 257 by omega]
end Go.Proofs.Ythnommoljikaiaa
