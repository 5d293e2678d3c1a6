/- The walk over accept.Accept. -/
import Derived.Test.YthnommoljikaiaaSha6
import Derived.Test.YthnommoljikaiaaAid2
set_option linter.unusedSimpArgs false
set_option linter.unusedVariables false
namespace Go.Proofs.Ythnommoljikaiaa
open Go.RowKit

def pinList (g e : Int) (s : List Int) : List Value := Value.int .u64 g :: Value.int .u64 e :: s.map (Value.int .u8)
def pinCells (g e : Int) (s : List Int) : Array Value := (pinList g e s).toArray
def zero32 : List Int := List.replicate 32 0
theorem pin_built (g e : Int) (s : List Int) (hs : s.length = 32) : Try.prog.built 84 [(0, .int .u64 g), (1, .int .u64 e), (2, .agg (ints .u8 s))] = some (pinCells g e s) := by
  have h : ∀ parts, Try.prog.built 84 parts = Instr.fill (#[(0, 1), (1, 1), (2, 32)][·]?) (pinCells 0 0 zero32) parts := fun _ => by kernel_rfl
  have e1 : putRow (putRow (pinCells 0 0 zero32) 0 (Value.int .u64 g).cells.toList) 1 (Value.int .u64 e).cells.toList = ([Value.int .u64 g, Value.int .u64 e] ++ zero32.map (Value.int .u8)).toArray := rfl
  have e2 := putRow_tail [Value.int .u64 g, Value.int .u64 e] (zero32.map (Value.int .u8)) (s.map (Value.int .u8)) (by simp [hs, zero32])
  have z : (pinCells 0 0 zero32).size = 34 := rfl
  rw [h, fill_cons (size := 1) rfl rfl (by rw [z]; decide), fill_cons (size := 1) rfl rfl (by rw [putRow_size, z]; decide), fill_cons (size := 32) rfl (by simp [Value.cells, ints_size, hs]) (by rw [putRow_size, putRow_size, z]; decide), fill_nil, e1]
  simp only [Value.cells, ints_toList]
  exact congrArg some e2
theorem pin_size (g e : Int) (s : List Int) (hs : s.length = 32) : (pinCells g e s).size = 34 := by simp [pinCells, pinList, hs]
theorem pin_sum (g e : Int) (s : List Int) (hs : s.length = 32) : (pinCells g e s).extract 2 (2 + 32) = ints .u8 s := by
  simp only [pinCells, pinList, ints, List.extract_toArray, List.extract_eq_take_drop, List.drop_succ_cons, List.drop_zero]
  rw [List.take_of_length_le (by simp [hs])]
theorem pin_oneCell (g e : Int) (s : List Int) : ∀ v ∈ (pinCells g e s).toList, v.oneCell' = true := by
  intro v hv
  simp only [pinCells, pinList, List.mem_cons, List.mem_map] at hv
  rcases hv with rfl | rfl | ⟨x, _, rfl⟩ <;> rfl
theorem pin_all (g e : Int) (s : List Int) (hs : s.length = 32) : (pinCells g e s).extract 0 (0 + 34) = pinCells g e s := by
  rw [← pin_size g e s hs, Nat.zero_add, Array.extract_size]
theorem pin_put (c : Array Value) (hc : c.size = 34) (g e : Int) (s : List Int) (hs : s.length = 32) : putRow c 0 (pinCells g e s).toList = pinCells g e s := by
  rw [putRow_all _ _ (by rw [Array.length_toList, pin_size g e s hs, hc])]
structure Pin where
  g : Int
  e : Int
  s : List Int
def Pin.val (p : Pin) : Value := .agg (pinCells p.g p.e p.s)
def pin0 : Pin := ⟨0, 0, zero32⟩
def acceptOf (p : Pin) (gen : Int) (bs : List Int) (epoch : Int) : Pin × Int :=
  if gen = 0 then (pin0, 11) else if gen < p.g ∨ epoch < p.e then (pin0, 18) else if gen = p.g ∧ shaOf bs ≠ p.s then (pin0, 12) else (⟨gen, epoch, shaOf bs⟩, 0)

set_option maxRecDepth 100000 in
set_option maxHeartbeats 600000 in
theorem accept_any (p : Pin) (gen epoch : Int) (A : Option Addr) (n cap : Nat) (bs : List Int) (w : World) (hp : p.s.length = 32) (hrd : RdB w A n bs) (hB : IsB bs) (hcap : n ≤ cap) (hbig : n ≤ 1152921504606846976) :
    Calls Try.prog 40 #[p.val, .int .u64 gen, .slice A n cap, .int .u64 epoch] w fun e w' =>
      e = .returned (.tuple #[(acceptOf p gen bs epoch).1.val, .int .i64 (acceptOf p gen bs epoch).2]) ∧ Below w.heap.size w w' := by
  obtain ⟨pg, pe, ps⟩ := p
  have Hrd := bx hrd; have HB := bx hB; have Hp := bx hp
  clear hrd hB hp
  show Calls Try.prog 40 #[.agg (pinCells pg pe ps), .int .u64 gen, .slice A n cap, .int .u64 epoch] w _
  go_enter Try.func40, Try.ntmps40
  go_wp2_with fail
  have hb0 : Below w.heap.size w ((w.alloc (.cells (pinCells pg pe ps) 84)).alloc (.cells (pinCells 0 0 zero32) 84)) := ((Below.refl _ _).alloc (Nat.le_refl _) _).alloc (by simp) _
  refine (sum_any A n cap bs _ (Hrd.out.below hb0) HB.out hcap hbig).mono ?_
  rintro e w1 ⟨rfl, hb1⟩
  have hP0 : w1.heap[w.heap.size]? = some (.cells (pinCells pg pe ps) 84 (0, 0)) := (hb1.block _ (by simp; omega)).trans (heap_alloc2_old w _ _)
  have hP1 : w1.heap[w.heap.size + 1]? = some (.cells (pinCells 0 0 zero32) 84 (0, 0)) := (hb1.block _ (by simp)).trans (heap_alloc2_new w _ _)
  have hb1' : Below w.heap.size w w1 := hb0.trans (hb1.mono (by simp; omega))
  have hsz1 : w.heap.size + 2 ≤ w1.heap.size := by have := hb1.size; simp at this; omega
  have HP0 := bx hP0; have HP1 := bx hP1; have HB1 := bx hb1'
  clear hP0 hP1 hb1 hb1' hb0
  have hS := shaOf_length bs
  generalize hSe : shaOf bs = S at *
  have HSe := bx hSe; have HS := bx hS
  clear hSe hS
  have I34 : Bx ((Try.prog.info? 84).map (·.size) = some 34) := ⟨by kernel_rfl⟩
  have I34' : Bx ((Try.prog.info? 84).map (·.size) = some (pinCells gen epoch S).size) := ⟨by rw [pin_size _ _ _ HS.out]; exact I34.out⟩
  go_wp2_with (first
    | ((with_reducible refine at_build 15 ?_); go_must (refine wpList_build2 rfl 84 [(0, .tmp 11), (1, .tmp 12), (2, .tmp 14)] rfl [(0, .int .u64 gen), (1, .int .u64 epoch), (2, .agg (ints .u8 S))] rfl (pinCells gen epoch S) (pin_built gen epoch S HS.out) ?_))
    | ((with_reducible refine at_store (.tmp 10) (.tmp 15) ?_); go_must (refine wpList_store_agg (cells := pinCells gen epoch S) rfl 84 (.tmp 10) (.tmp 15) rfl w1.heap.size 0 rfl rfl 84 (pinCells 0 0 zero32) (blk_new w1 _) I34'.out (by rw [pin_size _ _ _ HS.out]; decide) (pin_oneCell _ _ _) (pinCells gen epoch S) (pin_put _ rfl _ _ _ HS.out) ?_; intro w2 hu2; refine stop_here ?_)))
  have hQ0 : w2.heap[w.heap.size]? = some (.cells (pinCells pg pe ps) 84 (0, 0)) := hu2.blk (blk_alloc HP0.out) (by omega)
  have hQ1 : w2.heap[w.heap.size + 1]? = some (.cells (pinCells 0 0 zero32) 84 (0, 0)) := hu2.blk (blk_alloc HP1.out) (by omega)
  have hQ2 := hu2.same
  have hb2 : Below w.heap.size w w2 := (HB1.out.alloc (by omega) _).trans (hu2.below (by omega))
  have c0 : w2.cell? ⟨w.heap.size, 0, none⟩ = some (.int .u64 pg) := blk_cell hQ0 rfl
  have c1 : w2.cell? ⟨w.heap.size, 1, none⟩ = some (.int .u64 pe) := blk_cell hQ0 rfl
  have Q0 := bx hQ0; have Q1 := bx hQ1; have Q2 := bx hQ2; have B2 := bx hb2
  clear hQ0 hQ1 hQ2 hb2 hu2 HP0 HP1 HB1
  have hne12 : w.heap.size + 1 ≠ w1.heap.size := by omega
  generalize w1.heap.size = D at *
  delta Stop
  by_cases h0 : gen = 0
  · have H : Bx (acceptOf ⟨pg, pe, ps⟩ gen bs epoch = (pin0, 11)) := ⟨by simp [acceptOf, h0]⟩
    have h0' : (gen == 0) = true := by rw [beq_iff_eq]; exact h0
    clear h0
    go_wp2_with (first
      | ((with_reducible refine at_build 19 ?_); go_must (refine wpList_build2 rfl 84 [] rfl [] rfl (pinCells 0 0 zero32) (by kernel_rfl) ?_))
      | ((with_reducible refine at_store (.tmp 8) (.tmp 19) ?_); go_must (refine wpList_store_agg (cells := pinCells 0 0 zero32) rfl 84 (.tmp 8) (.tmp 19) rfl (w.heap.size + 1) 0 rfl rfl 84 (pinCells 0 0 zero32) Q1.out I34.out (by decide) (pin_oneCell _ _ _) (pinCells 0 0 zero32) (pin_put _ rfl _ _ _ rfl) ?_; intro w3 hu3)))
    rw [H.out]
    refine bodyPost_ret (v := .tuple #[.agg (pinCells 0 0 zero32), .int .i64 11]) (results_ct (cs := pinCells 0 0 zero32) rfl _ _ (w.heap.size + 1) 84 _ _ rfl rfl hu3.same Try.underlying84 rfl I34.out) rfl ⟨rfl, ?_⟩
    exact B2.out.trans (hu3.below (by omega))
  have h0' : (gen == 0) = false := by rw [beq_eq_false_iff_ne]; exact h0
  have H0 := bx h0
  clear h0
  by_cases h1 : gen < pg
  · have H : Bx (acceptOf ⟨pg, pe, ps⟩ gen bs epoch = (pin0, 18)) := ⟨by simp [acceptOf, H0.out, h1]⟩
    have h1' : decide (gen < pg) = true := by simpa using h1
    have H1 := bx h1
    clear h1
    go_wp2_with (first
      | ((with_reducible refine at_build 31 ?_); go_must (refine wpList_build2 rfl 84 [] rfl [] rfl (pinCells 0 0 zero32) (by kernel_rfl) ?_))
      | ((with_reducible refine at_store (.tmp 8) (.tmp 31) ?_); go_must (refine wpList_store_agg (cells := pinCells 0 0 zero32) rfl 84 (.tmp 8) (.tmp 31) rfl (w.heap.size + 1) 0 rfl rfl 84 (pinCells 0 0 zero32) Q1.out I34.out (by decide) (pin_oneCell _ _ _) (pinCells 0 0 zero32) (pin_put _ rfl _ _ _ rfl) ?_; intro w3 hu3)))
    rw [H.out]
    refine bodyPost_ret (v := .tuple #[.agg (pinCells 0 0 zero32), .int .i64 18]) (results_ct (cs := pinCells 0 0 zero32) rfl _ _ (w.heap.size + 1) 84 _ _ rfl rfl hu3.same Try.underlying84 rfl I34.out) rfl ⟨rfl, ?_⟩
    exact B2.out.trans (hu3.below (by omega))
  have h1' : decide (gen < pg) = false := by simpa using h1
  have H1 := bx h1
  clear h1
  by_cases h2 : epoch < pe
  · have H : Bx (acceptOf ⟨pg, pe, ps⟩ gen bs epoch = (pin0, 18)) := ⟨by simp [acceptOf, H0.out, H1.out, h2]⟩
    have h2' : decide (epoch < pe) = true := by simpa using h2
    have H2 := bx h2
    clear h2
    go_wp2_with (first
      | ((with_reducible refine at_build 31 ?_); go_must (refine wpList_build2 rfl 84 [] rfl [] rfl (pinCells 0 0 zero32) (by kernel_rfl) ?_))
      | ((with_reducible refine at_store (.tmp 8) (.tmp 31) ?_); go_must (refine wpList_store_agg (cells := pinCells 0 0 zero32) rfl 84 (.tmp 8) (.tmp 31) rfl (w.heap.size + 1) 0 rfl rfl 84 (pinCells 0 0 zero32) Q1.out I34.out (by decide) (pin_oneCell _ _ _) (pinCells 0 0 zero32) (pin_put _ rfl _ _ _ rfl) ?_; intro w3 hu3)))
    rw [H.out]
    refine bodyPost_ret (v := .tuple #[.agg (pinCells 0 0 zero32), .int .i64 18]) (results_ct (cs := pinCells 0 0 zero32) rfl _ _ (w.heap.size + 1) 84 _ _ rfl rfl hu3.same Try.underlying84 rfl I34.out) rfl ⟨rfl, ?_⟩
    exact B2.out.trans (hu3.below (by omega))
  have h2' : decide (epoch < pe) = false := by simpa using h2
  have H2 := bx h2
  clear h2
  by_cases h3 : gen = pg
  · by_cases h4 : S = ps
    · have H : Bx (acceptOf ⟨pg, pe, ps⟩ gen bs epoch = (⟨gen, epoch, S⟩, 0)) := ⟨by have e0 := H0.out; have e2 := H2.out; have e5 := HSe.out; subst h3; simp [acceptOf, e0, e2, h4, e5]⟩
      have h3' : (gen == pg) = true := by rw [beq_iff_eq]; exact h3
      have hn := neq_ints Try.underlying82 Try.underlying5 (by kernel_rfl) S ps HS.out Hp.out
      rw [decide_eq_true h4] at hn
      have H3 := bx h3; have H4 := bx h4
      clear h3 h4
      go_wp2_with (first
        | ((with_reducible refine at_load 39 ?_); go_must (refine wpList_load_agg rfl 82 (.tmp 38) rfl D 2 rfl 84 (pinCells gen epoch S) 32 _ Q2.out Try.underlying82 rfl (by kernel_rfl) (by rw [pin_size _ _ _ HS.out]; decide) (ints .u8 S) (pin_sum _ _ _ HS.out) ?_))
        | ((with_reducible refine at_load 41 ?_); go_must (refine wpList_load_agg rfl 82 (.tmp 40) rfl w.heap.size 2 rfl 84 (pinCells pg pe ps) 32 _ Q0.out Try.underlying82 rfl (by kernel_rfl) (by rw [pin_size _ _ _ Hp.out]; decide) (ints .u8 ps) (pin_sum _ _ _ Hp.out) ?_))
        | ((with_reducible refine at_load 45 ?_); go_must (refine wpList_load_agg rfl 84 (.tmp 10) rfl D 0 rfl 84 (pinCells gen epoch S) 34 _ Q2.out Try.underlying84 rfl I34.out (by rw [pin_size _ _ _ HS.out]; decide) (pinCells gen epoch S) (pin_all _ _ _ HS.out) ?_))
        | ((with_reducible refine at_store (.tmp 8) (.tmp 45) ?_); go_must (refine wpList_store_agg (cells := pinCells gen epoch S) rfl 84 (.tmp 8) (.tmp 45) rfl (w.heap.size + 1) 0 rfl rfl 84 (pinCells 0 0 zero32) Q1.out I34'.out (by rw [pin_size _ _ _ HS.out]; decide) (pin_oneCell _ _ _) (pinCells gen epoch S) (pin_put _ rfl _ _ _ HS.out) ?_; intro w3 hu3)))
      rw [H.out]
      refine bodyPost_ret (v := .tuple #[.agg (pinCells gen epoch S), .int .i64 0]) (results_ct (cs := pinCells gen epoch S) rfl _ _ (w.heap.size + 1) 84 _ _ rfl rfl hu3.same Try.underlying84 rfl I34'.out) rfl ⟨rfl, ?_⟩
      exact B2.out.trans (hu3.below (by omega))
    · have H : Bx (acceptOf ⟨pg, pe, ps⟩ gen bs epoch = (pin0, 12)) := ⟨by have e0 := H0.out; have e2 := H2.out; have e5 := HSe.out; subst h3; simp [acceptOf, e0, e2, h4, e5]⟩
      have h3' : (gen == pg) = true := by rw [beq_iff_eq]; exact h3
      have hn := neq_ints Try.underlying82 Try.underlying5 (by kernel_rfl) S ps HS.out Hp.out
      rw [decide_eq_false h4] at hn
      have H3 := bx h3; have H4 := bx h4
      clear h3 h4
      go_wp2_with (first
        | ((with_reducible refine at_build 44 ?_); go_must (refine wpList_build2 rfl 84 [] rfl [] rfl (pinCells 0 0 zero32) (by kernel_rfl) ?_))
        | ((with_reducible refine at_store (.tmp 8) (.tmp 44) ?_); go_must (refine wpList_store_agg (cells := pinCells 0 0 zero32) rfl 84 (.tmp 8) (.tmp 44) rfl (w.heap.size + 1) 0 rfl rfl 84 (pinCells 0 0 zero32) Q1.out I34.out (by decide) (pin_oneCell _ _ _) (pinCells 0 0 zero32) (pin_put _ rfl _ _ _ rfl) ?_; intro w3 hu3))
        | ((with_reducible refine at_load 39 ?_); go_must (refine wpList_load_agg rfl 82 (.tmp 38) rfl D 2 rfl 84 (pinCells gen epoch S) 32 _ Q2.out Try.underlying82 rfl (by kernel_rfl) (by rw [pin_size _ _ _ HS.out]; decide) (ints .u8 S) (pin_sum _ _ _ HS.out) ?_))
        | ((with_reducible refine at_load 41 ?_); go_must (refine wpList_load_agg rfl 82 (.tmp 40) rfl w.heap.size 2 rfl 84 (pinCells pg pe ps) 32 _ Q0.out Try.underlying82 rfl (by kernel_rfl) (by rw [pin_size _ _ _ Hp.out]; decide) (ints .u8 ps) (pin_sum _ _ _ Hp.out) ?_)))
      rw [H.out]
      refine bodyPost_ret (v := .tuple #[.agg (pinCells 0 0 zero32), .int .i64 12]) (results_ct (cs := pinCells 0 0 zero32) rfl _ _ (w.heap.size + 1) 84 _ _ rfl rfl hu3.same Try.underlying84 rfl I34.out) rfl ⟨rfl, ?_⟩
      exact B2.out.trans (hu3.below (by omega))
  · have H : Bx (acceptOf ⟨pg, pe, ps⟩ gen bs epoch = (⟨gen, epoch, S⟩, 0)) := ⟨by simp [acceptOf, H0.out, H1.out, H2.out, h3, HSe.out]⟩
    have h3' : (gen == pg) = false := by rw [beq_eq_false_iff_ne]; exact h3
    have H3 := bx h3
    clear h3
    go_wp2_with (first
      | ((with_reducible refine at_load 45 ?_); go_must (refine wpList_load_agg rfl 84 (.tmp 10) rfl D 0 rfl 84 (pinCells gen epoch S) 34 _ Q2.out Try.underlying84 rfl I34.out (by rw [pin_size _ _ _ HS.out]; decide) (pinCells gen epoch S) (pin_all _ _ _ HS.out) ?_))
      | ((with_reducible refine at_store (.tmp 8) (.tmp 45) ?_); go_must (refine wpList_store_agg (cells := pinCells gen epoch S) rfl 84 (.tmp 8) (.tmp 45) rfl (w.heap.size + 1) 0 rfl rfl 84 (pinCells 0 0 zero32) Q1.out I34'.out (by rw [pin_size _ _ _ HS.out]; decide) (pin_oneCell _ _ _) (pinCells gen epoch S) (pin_put _ rfl _ _ _ HS.out) ?_; intro w3 hu3)))
    rw [H.out]
    refine bodyPost_ret (v := .tuple #[.agg (pinCells gen epoch S), .int .i64 0]) (results_ct (cs := pinCells gen epoch S) rfl _ _ (w.heap.size + 1) 84 _ _ rfl rfl hu3.same Try.underlying84 rfl I34'.out) rfl ⟨rfl, ?_⟩
    exact B2.out.trans (hu3.below (by omega))
end Go.Proofs.Ythnommoljikaiaa
