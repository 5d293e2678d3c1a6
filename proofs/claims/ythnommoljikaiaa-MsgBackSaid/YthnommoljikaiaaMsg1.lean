/- Messages: what a request and a reply are; the walks over core, may and tail. -/
import Derived.Test.YthnommoljikaiaaFpu
import Derived.Test.YthnommoljikaiaaRdr3
import Derived.Test.YthnommoljikaiaaAgg
import Derived.Test.YthnommoljikaiaaSeq2
set_option linter.unusedSimpArgs false
set_option linter.unusedVariables false
namespace Go.Proofs.Ythnommoljikaiaa
open Go.RowKit

theorem sixteen (l : List Int) (h : l.length = 16) : ∃ a0 a1 a2 a3 a4 a5 a6 a7 a8 a9 a10 a11 a12 a13 a14 a15, l = [a0, a1, a2, a3, a4, a5, a6, a7, a8, a9, a10, a11, a12, a13, a14, a15] := by
  match l, h with
  | [a0, a1, a2, a3, a4, a5, a6, a7, a8, a9, a10, a11, a12, a13, a14, a15], _ => exact ⟨_, _, _, _, _, _, _, _, _, _, _, _, _, _, _, _, rfl⟩
def zero16 : List Int := List.replicate 16 0
def coreList (c k i g : Int) (nm : List Int) : List Value := .int .i64 c :: .int .i64 k :: .int .u64 i :: .int .u64 g :: nm.map (Value.int .u8)
def coreCells (c k i g : Int) (nm : List Int) : Array Value := (coreList c k i g nm).toArray
theorem core_built (c k i g : Int) (nm : List Int) (h : nm.length = 16) : Try.prog.built 187 [(0, .int .i64 c), (1, .int .i64 k), (2, .int .u64 i), (3, .int .u64 g), (4, .agg (ints .u8 nm))] = some (coreCells c k i g nm) := by
  obtain ⟨a0, a1, a2, a3, a4, a5, a6, a7, a8, a9, a10, a11, a12, a13, a14, a15, rfl⟩ := sixteen nm h
  kernel_rfl
theorem name_built0 : Try.prog.built 113 [] = some (ints .u8 zero16) := by kernel_rfl
theorem core_size (c k i g : Int) (nm : List Int) (h : nm.length = 16) : (coreCells c k i g nm).size = 20 := by simp [coreCells, coreList, h]
theorem core_info : (Try.prog.info? 187).map (·.size) = some 20 := by kernel_rfl
theorem name_info : (Try.prog.info? 113).map (·.size) = some 16 := by kernel_rfl
theorem core_is {c k i g : Int} {nm : List Int} (h : nm.length = 16) : (Try.prog.info? 187).map (·.size) = some (coreCells c k i g nm).size := by rw [core_size _ _ _ _ _ h]; exact core_info
theorem core_one (c k i g : Int) (nm : List Int) : ∀ v ∈ (coreCells c k i g nm).toList, v.oneCell' = true := by
  intro v hv
  simp only [coreCells, coreList, List.mem_cons, List.mem_map] at hv
  rcases hv with rfl | rfl | rfl | rfl | ⟨x, _, rfl⟩ <;> rfl
def reqList (c i k : Int) (nm : List Int) (g : Int) (nv dv : Value) : List Value := .int .i64 c :: .int .u64 i :: .int .i64 k :: (nm.map (Value.int .u8) ++ [.int .u64 g, nv, dv])
def reqCells (c i k : Int) (nm : List Int) (g : Int) (nv dv : Value) : Array Value := (reqList c i k nm g nv dv).toArray
def repCells (c i k g : Int) (nv dv : Value) : Array Value := #[.int .i64 c, .int .u64 i, .int .i64 k, .int .u64 g, nv, dv]
theorem req_size (c i k : Int) (nm : List Int) (g : Int) (nv dv : Value) (h : nm.length = 16) : (reqCells c i k nm g nv dv).size = 22 := by simp [reqCells, reqList, h]
theorem req_info : (Try.prog.info? 116).map (·.size) = some 22 := by kernel_rfl
theorem rep_info : (Try.prog.info? 118).map (·.size) = some 6 := by kernel_rfl
theorem req_is {c i k : Int} {nm : List Int} {g : Int} {nv dv : Value} (h : nm.length = 16) : (Try.prog.info? 116).map (·.size) = some (reqCells c i k nm g nv dv).size := by rw [req_size _ _ _ _ _ _ _ h]; exact req_info
theorem req_get (c i k : Int) (nm : List Int) (g : Int) (nv dv : Value) (h : nm.length = 16) : (reqCells c i k nm g nv dv)[19]? = some (.int .u64 g) ∧ (reqCells c i k nm g nv dv)[20]? = some nv ∧ (reqCells c i k nm g nv dv)[21]? = some dv := by
  obtain ⟨a0, a1, a2, a3, a4, a5, a6, a7, a8, a9, a10, a11, a12, a13, a14, a15, rfl⟩ := sixteen nm h
  exact ⟨rfl, rfl, rfl⟩
theorem req_name (c i k : Int) (nm : List Int) (g : Int) (nv dv : Value) (h : nm.length = 16) : (reqCells c i k nm g nv dv).extract 3 (3 + 16) = ints .u8 nm := by
  obtain ⟨a0, a1, a2, a3, a4, a5, a6, a7, a8, a9, a10, a11, a12, a13, a14, a15, rfl⟩ := sixteen nm h
  rfl
set_option maxRecDepth 100000 in
set_option maxHeartbeats 400000 in
theorem qcore_any (c i k : Int) (nm : List Int) (g : Int) (nv dv : Value) (w : World) (h : nm.length = 16) :
    Calls Try.prog 94 #[.agg (reqCells c i k nm g nv dv)] w fun e w' => e = .returned (.agg (coreCells c k i g nm)) ∧ Below w.heap.size w w' := by
  obtain ⟨w0, hw0⟩ : ∃ w0, w0 = (w.alloc (.cells (reqCells c i k nm g nv dv) 116)).alloc (.cells (coreCells 0 0 0 0 zero16) 187) := ⟨_, rfl⟩
  have K0 : Bx (w0.heap[w.heap.size]? = some (.cells (reqCells c i k nm g nv dv) 116 (0, 0))) := ⟨by rw [hw0]; exact heap_alloc2_old w _ _⟩
  have K1 : Bx (w0.heap[w.heap.size + 1]? = some (.cells (coreCells 0 0 0 0 zero16) 187 (0, 0))) := ⟨by rw [hw0]; exact heap_alloc2_new w _ _⟩
  have B0 : Bx (Below w.heap.size w w0) := ⟨by rw [hw0]; exact ((Below.refl _ _).alloc (Nat.le_refl _) _).alloc (by simp) _⟩
  have c0 : w0.cell? ⟨w.heap.size, 0, none⟩ = some (.int .i64 c) := blk_cell K0.out rfl
  have c1 : w0.cell? ⟨w.heap.size, 1, none⟩ = some (.int .u64 i) := blk_cell K0.out rfl
  have c2 : w0.cell? ⟨w.heap.size, 2, none⟩ = some (.int .i64 k) := blk_cell K0.out rfl
  have c3 : w0.cell? ⟨w.heap.size, 19, none⟩ = some (.int .u64 g) := blk_cell K0.out (req_get c i k nm g nv dv h).1
  have HW := bx hw0; have H := bx h
  have IS : Bx ((Try.prog.info? 187).map (·.size) = some (coreCells c k i g nm).size) := ⟨core_is h⟩
  clear h hw0
  go_enter Try.func94, Try.ntmps94
  go_upto_region 1 with fail
  have E : (w.alloc (.cells (reqCells c i k nm g nv dv) 116)).alloc (.cells #[.int .i64 0, .int .i64 0, .int .u64 0, .int .u64 0, .int .u8 0, .int .u8 0, .int .u8 0, .int .u8 0, .int .u8 0, .int .u8 0, .int .u8 0, .int .u8 0, .int .u8 0, .int .u8 0, .int .u8 0, .int .u8 0, .int .u8 0, .int .u8 0, .int .u8 0, .int .u8 0] 187) = w0 := HW.out.symm
  rw [E]
  clear E HW
  go_wp2_with (first
    | ((with_reducible refine at_load 12 ?_); go_must (refine wpList_load_agg rfl 113 (.tmp 11) rfl w.heap.size 3 rfl 116 (reqCells c i k nm g nv dv) 16 _ K0.out Try.underlying113 rfl name_info (by rw [req_size _ _ _ _ _ _ _ H.out]; decide) (ints .u8 nm) (req_name c i k nm g nv dv H.out) ?_))
    | ((with_reducible refine at_build 13 ?_); go_must (refine wpList_build2 rfl 187 [(0, .tmp 4), (1, .tmp 6), (2, .tmp 8), (3, .tmp 10), (4, .tmp 12)] rfl _ rfl _ (core_built c k i g nm H.out) ?_))
    | ((with_reducible refine at_store (.tmp 2) (.tmp 13) ?_); go_must (refine store_all 187 (.tmp 2) (.tmp 13) rfl rfl rfl rfl K1.out IS.out (by rw [core_size _ _ _ _ _ H.out]; rfl) (core_one _ _ _ _ _) ?_; intro w9 hu9)))
  refine bodyPost_ret (v := .agg (coreCells c k i g nm)) (results_agg (cs := coreCells c k i g nm) rfl _ _ (w.heap.size + 1) 187 _ rfl hu9.same Try.underlying187 rfl IS.out) rfl ⟨rfl, ?_⟩
  exact B0.out.trans (hu9.below (by omega))
set_option maxRecDepth 100000 in
set_option maxHeartbeats 400000 in
theorem pcore_any (c i k g : Int) (nv dv : Value) (w : World) :
    Calls Try.prog 100 #[.agg (repCells c i k g nv dv)] w fun e w' => e = .returned (.agg (coreCells c k i g zero16)) ∧ Below w.heap.size w w' := by
  obtain ⟨w0, hw0⟩ : ∃ w0, w0 = (w.alloc (.cells (repCells c i k g nv dv) 118)).alloc (.cells (coreCells 0 0 0 0 zero16) 187) := ⟨_, rfl⟩
  have K0 : Bx (w0.heap[w.heap.size]? = some (.cells (repCells c i k g nv dv) 118 (0, 0))) := ⟨by rw [hw0]; exact heap_alloc2_old w _ _⟩
  have K1 : Bx (w0.heap[w.heap.size + 1]? = some (.cells (coreCells 0 0 0 0 zero16) 187 (0, 0))) := ⟨by rw [hw0]; exact heap_alloc2_new w _ _⟩
  have B0 : Bx (Below w.heap.size w w0) := ⟨by rw [hw0]; exact ((Below.refl _ _).alloc (Nat.le_refl _) _).alloc (by simp) _⟩
  have c0 : w0.cell? ⟨w.heap.size, 0, none⟩ = some (.int .i64 c) := blk_cell K0.out rfl
  have c1 : w0.cell? ⟨w.heap.size, 1, none⟩ = some (.int .u64 i) := blk_cell K0.out rfl
  have c2 : w0.cell? ⟨w.heap.size, 2, none⟩ = some (.int .i64 k) := blk_cell K0.out rfl
  have c3 : w0.cell? ⟨w.heap.size, 3, none⟩ = some (.int .u64 g) := blk_cell K0.out rfl
  have HW := bx hw0
  have IS : Bx ((Try.prog.info? 187).map (·.size) = some (coreCells c k i g zero16).size) := ⟨core_is rfl⟩
  clear hw0
  go_enter Try.func100, Try.ntmps100
  go_upto_region 1 with fail
  have E : (w.alloc (.cells (repCells c i k g nv dv) 118)).alloc (.cells #[.int .i64 0, .int .i64 0, .int .u64 0, .int .u64 0, .int .u8 0, .int .u8 0, .int .u8 0, .int .u8 0, .int .u8 0, .int .u8 0, .int .u8 0, .int .u8 0, .int .u8 0, .int .u8 0, .int .u8 0, .int .u8 0, .int .u8 0, .int .u8 0, .int .u8 0, .int .u8 0] 187) = w0 := HW.out.symm
  rw [E]
  clear E HW
  go_wp2_with (first
    | ((with_reducible refine at_build 11 ?_); go_must (refine wpList_build2 rfl 113 [] rfl [] rfl (ints .u8 zero16) name_built0 ?_))
    | ((with_reducible refine at_build 12 ?_); go_must (refine wpList_build2 rfl 187 [(0, .tmp 4), (1, .tmp 6), (2, .tmp 8), (3, .tmp 10), (4, .tmp 11)] rfl _ rfl _ (core_built c k i g zero16 rfl) ?_))
    | ((with_reducible refine at_store (.tmp 2) (.tmp 12) ?_); go_must (refine store_all 187 (.tmp 2) (.tmp 12) rfl rfl rfl rfl K1.out IS.out (by rw [core_size _ _ _ _ _ rfl]; rfl) (core_one _ _ _ _ _) ?_; intro w9 hu9)))
  refine bodyPost_ret (v := .agg (coreCells c k i g zero16)) (results_agg (cs := coreCells c k i g zero16) rfl _ _ (w.heap.size + 1) 187 _ rfl hu9.same Try.underlying187 rfl IS.out) rfl ⟨rfl, ?_⟩
  exact B0.out.trans (hu9.below (by omega))
/-- May it be? -/
def mayB (c k lo hi : Int) (nn dn : Nat) : Bool := decide (1 ≤ c) && (decide (c ≤ 255) && (decide (lo ≤ k) && (decide (k ≤ hi) && (decide (nn ≤ 128) && decide (dn ≤ 8192)))))
set_option maxRecDepth 100000 in
set_option maxHeartbeats 400000 in
theorem msgmay_any (c k i g : Int) (nm : List Int) (lo hi : Int) (A : Option Addr) (nn cap : Nat) (A2 : Option Addr) (dn cap2 : Nat) (w : World) :
    Calls Try.prog 95 #[.agg (coreCells c k i g nm), .int .i64 lo, .int .i64 hi, .slice A nn cap, .slice A2 dn cap2] w fun e w' => e = .returned (.bool (mayB c k lo hi nn dn)) ∧ Below w.heap.size w w' := by
  have HM : Bx (mayB c k lo hi nn dn = (decide (1 ≤ c) && (decide (c ≤ 255) && (decide (lo ≤ k) && (decide (k ≤ hi) && (decide (nn ≤ 128) && decide (dn ≤ 8192))))))) := ⟨rfl⟩
  have B0 : Bx (Below w.heap.size w (w.alloc (.cells (coreCells c k i g nm) 187))) := ⟨(Below.refl _ _).alloc (Nat.le_refl _) _⟩
  have c0 : (w.alloc (.cells (coreCells c k i g nm) 187)).cell? ⟨w.heap.size, 0, none⟩ = some (.int .i64 c) := blk_cell (blk_new w _) rfl
  have c1 : (w.alloc (.cells (coreCells c k i g nm) 187)).cell? ⟨w.heap.size, 1, none⟩ = some (.int .i64 k) := blk_cell (blk_new w _) rfl
  have ways : (¬ 1 ≤ c ∧ mayB c k lo hi nn dn = false) ∨ ((1 ≤ c ∧ ¬ c ≤ 255) ∧ mayB c k lo hi nn dn = false) ∨ ((1 ≤ c ∧ c ≤ 255 ∧ ¬ lo ≤ k) ∧ mayB c k lo hi nn dn = false) ∨ ((1 ≤ c ∧ c ≤ 255 ∧ lo ≤ k ∧ ¬ k ≤ hi) ∧ mayB c k lo hi nn dn = false)
      ∨ ((1 ≤ c ∧ c ≤ 255 ∧ lo ≤ k ∧ k ≤ hi ∧ ¬ (nn : Int) ≤ 128) ∧ mayB c k lo hi nn dn = false) ∨ ((1 ≤ c ∧ c ≤ 255 ∧ lo ≤ k ∧ k ≤ hi ∧ (nn : Int) ≤ 128 ∧ ¬ (dn : Int) ≤ 8192) ∧ mayB c k lo hi nn dn = false) ∨ ((1 ≤ c ∧ c ≤ 255 ∧ lo ≤ k ∧ k ≤ hi ∧ (nn : Int) ≤ 128 ∧ (dn : Int) ≤ 8192) ∧ mayB c k lo hi nn dn = true) := by
    rw [HM.out]
    by_cases h1 : 1 ≤ c
    · by_cases h2 : c ≤ 255
      · by_cases h3 : lo ≤ k
        · by_cases h4 : k ≤ hi
          · by_cases h5 : nn ≤ 128
            · by_cases h6 : dn ≤ 8192
              · exact .inr (.inr (.inr (.inr (.inr (.inr ⟨⟨h1, h2, h3, h4, by omega, by omega⟩, by simp [h1, h2, h3, h4, h5, h6]⟩)))))
              · exact .inr (.inr (.inr (.inr (.inr (.inl ⟨⟨h1, h2, h3, h4, by omega, by omega⟩, by simp [h6]⟩)))))
            · exact .inr (.inr (.inr (.inr (.inl ⟨⟨h1, h2, h3, h4, by omega⟩, by simp [h5]⟩))))
          · exact .inr (.inr (.inr (.inl ⟨⟨h1, h2, h3, h4⟩, by simp [h4]⟩)))
        · exact .inr (.inr (.inl ⟨⟨h1, h2, h3⟩, by simp [h3]⟩))
      · exact .inr (.inl ⟨⟨h1, h2⟩, by simp [h2]⟩)
    · exact .inl ⟨h1, by simp [h1]⟩
  clear HM
  rcases ways with ⟨h1, hm⟩ | ⟨⟨h1, h2⟩, hm⟩ | ⟨⟨h1, h2, h3⟩, hm⟩ | ⟨⟨h1, h2, h3, h4⟩, hm⟩ | ⟨⟨h1, h2, h3, h4, h5⟩, hm⟩ | ⟨⟨h1, h2, h3, h4, h5, h6⟩, hm⟩ | ⟨⟨h1, h2, h3, h4, h5, h6⟩, hm⟩
  all_goals
    have HM := bx hm
    clear hm
    go_enter Try.func95, Try.ntmps95
    go_wp2_with fail
    go_ret
    rw [HM.out]
    exact ⟨rfl, B0.out⟩
end Go.Proofs.Ythnommoljikaiaa
