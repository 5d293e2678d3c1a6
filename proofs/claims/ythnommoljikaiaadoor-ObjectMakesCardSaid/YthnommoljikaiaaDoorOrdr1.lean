/- The walks over a Reader of package wire: New, take, Num. -/
import Derived.Test.YthnommoljikaiaaDoorOsz
import Derived.Laws.Bits64b
set_option linter.unusedSimpArgs false
set_option linter.unusedVariables false
namespace Go.Proofs.YthnommoljikaiaaDoor
open Go.RowKit

/-- A reader in block R: what is left, and what is wrong. -/
def RdrAt (w : World) (R : Nat) (v e : Value) : Prop := w.heap[R]? = some (.cells #[v, e] 116 (0, 0))

set_option maxRecDepth 100000 in
set_option maxHeartbeats 400000 in
theorem rnew_any (A : Option Addr) (n cap : Nat) (bs : List Int) (w : World) (hrd : RdB w A n bs) (hnil : A = none → cap = 0) (hbig : n ≤ 35184372088832) :
    Calls Tryd.prog 57 #[.slice A n cap] w fun e w' => ∃ R A1 c1, e = .returned (.pointer (some ⟨R, 0, none⟩)) ∧ RdrAt w' R (.slice A1 n c1) .nilIface ∧ RdB w' A1 n bs ∧ n ≤ c1 ∧ (A1 = none → c1 = 0) ∧ (∀ a, A1 = some a → w.heap.size ≤ a.block ∧ a.block < R) ∧ w.heap.size ≤ R ∧ Below w.heap.size w w' := by
  have HRD := bx hrd; have HNIL := bx hnil
  clear hrd hnil
  go_enter Tryd.func57, Tryd.ntmps57
  go_wp2_with fail
  refine (clone_any A n cap bs _ HRD.out HNIL.out hbig).mono ?_
  rintro e w1 ⟨r, rfl, ho, hb⟩
  obtain ⟨A1, c1, rfl, hr1, hc1, hn1⟩ := ho.rdn HRD.out.1
  have hlt : ∀ a, A1 = some a → w.heap.size ≤ a.block ∧ a.block < w1.heap.size := fun a ha => by subst ha; exact ho.lt a.block rfl
  have B1 := bx hb; have HR1 := bx hr1; have HN1 := bx hn1; have HLT := bx hlt
  clear ho hb hr1 hn1 hlt
  go_wp2_with fail
  go_ret
  exact ⟨w1.heap.size, A1, c1, rfl, blk_new w1 _, HR1.out.below ((Below.refl _ _).alloc (Nat.le_refl _) _), hc1, HN1.out, HLT.out, B1.out.size, B1.out.alloc B1.out.size _⟩

/-- What a number's first n bytes tell. -/
def num (l : List Int) : Int := l.foldl (fun v c => v * 256 + c) 0
theorem num_bounds : ∀ (l : List Int) (v : Int) (k : Nat), IsB l → 0 ≤ v → v < 256 ^ k → 0 ≤ l.foldl (fun v c => v * 256 + c) v ∧ l.foldl (fun v c => v * 256 + c) v < 256 ^ (k + l.length)
  | [], v, k, _, h0, h1 => ⟨h0, h1⟩
  | c :: l, v, k, hB, h0, h1 => by
    have hc := hB 0
    simp only [List.getD_cons_zero] at hc
    have := num_bounds l (v * 256 + c) (k + 1) (fun j => by simpa using hB (j + 1)) (by omega) (by rw [Int.pow_succ]; omega)
    rw [List.length_cons, show k + (l.length + 1) = k + 1 + l.length by omega]
    exact this

/-- The first m of a reader's n bytes are taken out. -/
def Taken (w w' : World) (R m n c : Nat) (A : Option Addr) : Prop := ∃ A', (c = m ∨ A' = A.map (·.add m)) ∧ w' = w.setCell ⟨R, 0, none⟩ (.slice A' (n - m) (c - m))

set_option maxRecDepth 100000 in
set_option maxHeartbeats 400000 in
theorem take_fine (R m n c : Nat) (A : Option Addr) (w : World) (hR : RdrAt w R (.slice A n c) .nilIface) (hm : 1 ≤ m) (hmn : m ≤ n) (hnc : n ≤ c) :
    Calls Tryd.prog 79 #[.pointer (some ⟨R, 0, none⟩), .int .i64 m] w fun e w' => e = .returned (.tuple #[.slice A m m, .bool true]) ∧ Taken w w' R m n c A := by
  have c0 : w.cell? ⟨R, 0, none⟩ = some (.slice A n c) := blk_cell hR rfl
  have c1 : w.cell? ⟨R, 1, none⟩ = some .nilIface := blk_cell hR rfl
  have f0 : w.frozen? ⟨R, 0, none⟩ = false := blk_frozen 0 hR
  have HR := bx hR
  have hm0 : ¬ ((m : Int) < 1) := by omega
  have hmn' : ¬ ((n : Int) < m) := by omega
  clear hR
  go_enter Tryd.func79, Tryd.ntmps79
  go_wp2_with go_in
  · go_ret2
    exact ⟨rfl, A, .inl rfl, by rw [Nat.sub_self]⟩
  · go_ret2
    exact ⟨rfl, _, .inr rfl, rfl⟩

theorem or_byte {x c : Int} (hx : 0 ≤ x) (hx2 : x < 72057594037927936) (hc : 0 ≤ c) (hc2 : c < 256) : bits .or .u64 (x * 256) c = x * 256 + c := by
  obtain ⟨a, rfl⟩ := Int.eq_ofNat_of_zero_le hx
  obtain ⟨b, rfl⟩ := Int.eq_ofNat_of_zero_le hc
  have h1 : ((a : Int) * 256) = ((256 * a : Nat) : Int) := by omega
  have h2 : 256 * a + b = 256 * a ||| b := Nat.two_pow_add_eq_or_of_lt (i := 8) (b := b) (by omega) a
  rw [h1, bits_or_u64_nat _ _ (by omega) (by omega), ← h2]
  omega
theorem num_append (a : List Int) (c : Int) : num (a ++ [c]) = num a * 256 + c := by simp [num]

set_option maxRecDepth 100000 in
set_option maxHeartbeats 800000 in
theorem num_fine (R m n c : Nat) (A : Option Addr) (bs : List Int) (w : World) (hR : RdrAt w R (.slice A n c) .nilIface) (hrd : RdB w A n bs) (hB : IsB bs) (hm : 1 ≤ m) (hm7 : m ≤ 7) (hmn : m ≤ n) (hnc : n ≤ c) (hRA : ∀ a, A = some a → a.block ≠ R) :
    Calls Tryd.prog 59 #[.pointer (some ⟨R, 0, none⟩), .int .i64 m] w fun e w' => e = .returned (.int .u64 (num (bs.take m))) ∧ Taken w w' R m n c A := by
  have HR := bx hR; have HRD := bx hrd; have HB := bx hB; have HRA := bx hRA
  have hmin : min (m : Int) 8 = m := by omega
  clear hR hrd hB hRA
  go_enter Tryd.func59, Tryd.ntmps59
  go_wp2_with fail
  refine (take_fine R m n c A _ HR.out hm hmn hnc).mono ?_
  rintro e w1 ⟨rfl, hT⟩
  have HT := bx hT
  obtain ⟨A', hA', hw1⟩ := hT
  obtain ⟨b, o, rfl, hb, hcells⟩ := HRD.out.2 (by omega)
  have hne : b ≠ R := HRA.out _ rfl
  have hc1 : ∀ j, j < m → w1.cell? ⟨b, o + j, none⟩ = some (.int .u8 (bs.getD j 0)) := fun j hj => by
    rw [hw1, World.cell?_setCell_far _ _ _ _ (fun e => hne e.symm)]
    exact hcells j (by omega)
  have HC := bx hc1
  clear hcells hc1 hw1 hA'
  go_wp2_with fail
  go_loopw [7, 19] (fun v i wr => ∃ j : Nat, j ≤ m ∧ v = .int .u64 (num (bs.take j)) ∧ i = .int .i64 j ∧ wr = w1) (fun _ i _ => m - (intOf i).toNat)
  case atStart => exact ⟨0, by omega, rfl, rfl, rfl⟩
  case round =>
    obtain ⟨j, hj, rfl, rfl, hw⟩ := hrel
    have HW := bx hw
    clear hw
    by_cases hlt : j < m
    · have hcj : wr.cell? ⟨b, o + j, none⟩ = some (.int .u8 (bs.getD j 0)) := by rw [HW.out]; exact HC.out j hlt
      have hbd := num_bounds (bs.take j) 0 0 (isB_take HB.out j) (Int.le_refl _) (by decide)
      have hl : (bs.take j).length ≤ 6 := by rw [List.length_take]; omega
      have hbj := HB.out j
      generalize hcje : bs.getD j 0 = cj at *
      have HCJ := bx hcje
      clear hcje
      generalize hnu : num (bs.take j) = nu at *
      have hnu2 : 0 ≤ nu ∧ nu < 281474976710656 := by
        rw [← hnu]
        refine ⟨hbd.1, Int.lt_of_lt_of_le hbd.2 ?_⟩
        rw [Nat.zero_add]
        have hp : (256 : Int) ^ (bs.take j).length ≤ (256 : Int) ^ 6 := by exact_mod_cast Nat.pow_le_pow_right (by decide : 256 > 0) hl
        exact Int.le_trans hp (by decide)
      have HNU := bx hnu
      have hor := or_byte (x := nu) (c := cj) (by omega) (by omega) hbj.1 hbj.2
      have hjl : j < bs.length := by rw [HRD.out.1]; omega
      have hstep : Bx (num (bs.take (j + 1)) = nu * 256 + cj) := ⟨by
        rw [List.take_add_one, List.getElem?_eq_getElem hjl]
        show num (bs.take j ++ [bs[j]]) = _
        rw [num_append, hnu]
        have e := HCJ.out
        rw [List.getD_eq_getElem?_getD, List.getElem?_eq_getElem hjl] at e
        simp only [Option.getD_some] at e
        rw [e]⟩
      clear hbd hl hnu hjl
      obtain ⟨hn1, hn2⟩ := hnu2
      obtain ⟨hb1, hb2⟩ := hbj
      go_wp2_with fail
      exact ⟨⟨j + 1, by omega, by rw [hstep.out], by go_num, HW.out⟩, by simp [intOf]; omega⟩
    · obtain rfl : j = m := by omega
      go_wp2_with fail
      go_ret
      exact ⟨rfl, by rw [HW.out]; exact HT.out⟩
end Go.Proofs.YthnommoljikaiaaDoor
