/- The walks over sha's Of and Sum. -/
import Derived.Test.YthnommoljikaiaaDoorSha5
set_option linter.unusedSimpArgs false
set_option linter.unusedVariables false
namespace Go.Proofs.YthnommoljikaiaaDoor
open Go.RowKit

/-- A slice of bytes reads so. -/
def RdB (w : World) (A : Option Addr) (n : Nat) (bs : List Int) : Prop :=
  bs.length = n ∧ (0 < n → ∃ b o, A = some ⟨b, o, none⟩ ∧ b < w.heap.size ∧ ∀ j, j < n → w.cell? ⟨b, o + j, none⟩ = some (.int .u8 (bs.getD j 0)))
theorem RdB.below {w w' : World} {A : Option Addr} {n : Nat} {bs : List Int} (h : RdB w A n bs) (hb : Below w.heap.size w w') : RdB w' A n bs :=
  ⟨h.1, fun hn => by
    obtain ⟨b, o, e, hlt, hc⟩ := h.2 hn
    exact ⟨b, o, e, Nat.lt_of_lt_of_le hlt hb.size, fun j hj => (hb.cell (p := ⟨b, o + j, none⟩) hlt).trans (hc j hj)⟩⟩
theorem RdB.toX {w w' : World} {A : Option Addr} {n g : Nat} {bs : List Int} (h : RdB w A n bs) (hb : Below w.heap.size w w') (hg : w.heap.size ≤ g) : RdX w' g A n bs :=
  ⟨h.1, fun hn => by
    obtain ⟨b, o, e, hlt, hc⟩ := h.2 hn
    exact ⟨b, o, e, by omega, Nat.lt_of_lt_of_le hlt hb.size, fun j hj => (hb.cell (p := ⟨b, o + j, none⟩) hlt).trans (hc j hj)⟩⟩
structure Sl where
  A : Option Addr
  n : Nat
  cap : Nat
  bs : List Int
def Sl.val (s : Sl) : Value := .slice s.A s.n s.cap
def Sl.Ok (w : World) (s : Sl) : Prop := RdB w s.A s.n s.bs ∧ IsB s.bs ∧ s.n ≤ s.cap
def cat (L : List Sl) : List Int := L.flatMap (·.bs)
def shaOf (bs : List Int) : List Int := digest (absorbs hs0 bs)
theorem cat_take_succ (L : List Sl) (i : Nat) (h : i < L.length) : cat (L.take (i + 1)) = cat (L.take i) ++ L[i].bs := by
  rw [List.take_succ_eq_append_getElem h, cat, cat, List.flatMap_append]
  simp
theorem cat_take_le (L : List Sl) (i : Nat) : (cat (L.take i)).length ≤ (cat L).length := by
  have h : cat L = cat (L.take i) ++ cat (L.drop i) := by rw [cat, cat, cat, ← List.flatMap_append, List.take_append_drop]
  rw [h, List.length_append]
  exact Nat.le_add_right _ _
theorem cat_isB {w : World} : ∀ (L : List Sl), (∀ s ∈ L, s.Ok w) → IsB (cat L)
  | [], _ => fun j => ⟨by simp [cat], by simp [cat]⟩
  | s :: L, h => by
    have : cat (s :: L) = s.bs ++ cat L := by simp [cat]
    rw [this]
    exact isB_append (h s (by simp)).2.1 (cat_isB L fun x hx => h x (by simp [hx]))

set_option maxRecDepth 100000 in
set_option maxHeartbeats 600000 in
theorem of_any (b0 o0 c0 : Nat) (L : List Sl) (w : World) (hcells : ∀ i, (hi : i < L.length) → w.cell? ⟨b0, o0 + i, none⟩ = some L[i].val) (hb0 : b0 < w.heap.size) (hok : ∀ s ∈ L, s.Ok w) (hbig : (cat L).length ≤ 1152921504606846976) (hL : L.length ≤ 1000000) :
    Calls Tryd.prog 70 #[.slice (some ⟨b0, o0, none⟩) L.length c0] w fun e w' => e = .returned (.agg (ints .u8 (shaOf (cat L)))) ∧ Below w.heap.size w w' := by
  have Hc := bx hcells; have Hok := bx hok
  clear hcells hok
  go_enter Tryd.func70, Tryd.ntmps70
  go_wp2_with fail
  refine (new_any _).mono ?_
  rintro e w1 ⟨E, rfl, hE, hE1, hb1⟩
  have hR1 : w1.heap[w.heap.size]? = some (.cells (List.replicate 32 (Value.int .u8 0)).toArray 31 (0, 0)) := (hb1.block w.heap.size (by simp)).trans (blk_new w _)
  have hb1' : Below w.heap.size w w1 := ((Below.refl _ _).alloc (Nat.le_refl _) _).trans (hb1.mono (by simp))
  have hE' : w.heap.size < E := by simp at hE; omega
  have HE1 := bx hE1; have HR1 := bx hR1; have HB1 := bx hb1'
  clear hE1 hR1 hb1 hE hb1'
  go_wp2
  go_loopw [9] (fun i wr => ∃ j : Nat, j ≤ L.length ∧ i = .int .i64 j ∧ wr.heap[E]? = some (.cells (hsCells (absorbs hs0 (cat (L.take j)))) 140 (0, 0)) ∧ wr.heap[w.heap.size]? = some (.cells (List.replicate 32 (Value.int .u8 0)).toArray 31 (0, 0)) ∧ Below w.heap.size w wr)
    (fun i _ => L.length - (intOf i).toNat)
  case atStart => exact ⟨0, by omega, rfl, HE1.out, HR1.out, HB1.out⟩
  case round =>
    obtain ⟨j, hj, rfl, hEj, hRj, hbj⟩ := hrel
    have HEj := bx hEj; have HRj := bx hRj; have Hbj := bx hbj
    clear hEj hRj hbj HE1 HR1 HB1
    by_cases hlt : j < L.length
    · have hcj : wr.cell? ⟨b0, o0 + j, none⟩ = some (.slice L[j].A L[j].n L[j].cap) := (Hbj.out.cell (p := ⟨b0, o0 + j, none⟩) hb0).trans (Hc.out j hlt)
      have hsucc := bx (cat_take_succ L j hlt)
      have hsok := bx (Hok.out L[j] (List.getElem_mem hlt))
      have hle := bx (cat_take_le L (j + 1))
      have htok := bx (cat_isB (L.take j) fun s hs => Hok.out s (List.mem_of_mem_take hs))
      obtain ⟨s, hs⟩ : ∃ s, s = L[j] := ⟨_, rfl⟩
      rw [← hs] at hcj hsucc hsok
      have Hs := bx hs
      clear hs
      go_wp2_with fail
      refine (write_any E (absorbs hs0 (cat (L.take j))) s.A s.n s.cap s.bs 140 _ (hs0_ok.absorbs htok.out).st (hs0_ok.absorbs htok.out).rest (hs0_ok.absorbs htok.out).isB hsok.out.2.1 (hsok.out.1.toX Hbj.out (by omega)) hsok.out.2.2 ?_ HEj.out).mono ?_
      · have h1 := hle.out
        rw [hsucc.out, List.length_append, hsok.out.1.1] at h1
        rw [absorbs_n]
        show 0 + _ + _ ≤ _
        omega
      rintro e w4 ⟨rfl, p4⟩
      have b4 := bx (Hbj.out.trans (put1_below p4 (by omega) (by have := Hbj.out.size; omega)))
      have r4 := bx ((p4.other w.heap.size (blk_lt HRj.out) (by omega)).trans HRj.out)
      have e4 := bx p4.same
      clear p4
      go_wp2
      go_roundw
      case rel => exact ⟨j + 1, by omega, by go_num, by rw [hsucc.out, absorbs_append]; exact e4.out, r4.out, b4.out⟩
      case measure => simp [intOf]; omega
    · obtain rfl : j = L.length := by omega
      have hall : absorbs hs0 (cat (L.take L.length)) = absorbs hs0 (cat L) := by rw [List.take_of_length_le (Nat.le_refl _)]
      have hok1 := bx (hs0_ok.absorbs (cat_isB L Hok.out))
      have hE2 := HEj.out
      rw [hall] at hE2
      have HE2 := bx hE2
      have hn := bx (absorbs_n (cat L) hs0)
      clear hE2 hall HEj
      go_wp2_with fail
      refine (hsum_any E (absorbs hs0 (cat L)) _ hok1.out (by rw [hn.out]; show 0 + _ ≤ _; omega) HE2.out).mono ?_
      rintro e w5 ⟨rfl, hb5⟩
      obtain ⟨V, hV⟩ : ∃ V, V = ints .u8 (digest (absorbs hs0 (cat L))) := ⟨_, rfl⟩
      have hsz : V.size = 32 := by rw [hV, ints_size]; exact outBytes_length _ _
      have ho := ints_oneCell .u8 (digest (absorbs hs0 (cat L)))
      rw [← hV] at ho ⊢
      have hsz' : (Tryd.prog.info? 31).map (·.size) = some V.size := by rw [hsz]; kernel_rfl
      have HR5 := bx ((hb5.block w.heap.size (blk_lt HRj.out)).trans HRj.out)
      have HB5 := bx (Hbj.out.trans (hb5.mono Hbj.out.size))
      have HV := bx hV; have HS := bx hsz; have HO := bx ho; have HS' := bx hsz'
      clear hV hsz ho hsz' hb5
      go_wp2_with ((with_reducible refine at_store (.tmp 2) (.tmp 18) ?_); go_must (have q1 := HS'.out; have q2 := HS.out; refine wpList_store_agg (cells := V) rfl 31 (.tmp 2) (.tmp 18) rfl w.heap.size 0 rfl rfl 31 _ HR5.out q1 (by rw [q2]; decide) HO.out V (by rw [putRow_all _ _ (by rw [Array.length_toList, q2]; decide)]) ?_; intro w9 hu9; clear q1 q2))
      refine bodyPost_ret (v := .agg V) (results_agg (cs := V) rfl _ _ w.heap.size 31 _ rfl hu9.same Tryd.underlying31 rfl HS'.out) rfl ⟨by rw [HV.out]; rfl, ?_⟩
      exact HB5.out.trans (hu9.below (Nat.le_refl _))

set_option maxRecDepth 100000 in
set_option maxHeartbeats 600000 in
theorem sum_any (A : Option Addr) (n cap : Nat) (bs : List Int) (w : World) (hrd : RdB w A n bs) (hB : IsB bs) (hcap : n ≤ cap) (hbig : n ≤ 1152921504606846976) :
    Calls Tryd.prog 42 #[.slice A n cap] w fun e w' => e = .returned (.agg (ints .u8 (shaOf bs))) ∧ Below w.heap.size w w' := by
  have Hrd := bx hrd; have HB := bx hB
  clear hrd hB
  go_enter Tryd.func42, Tryd.ntmps42
  go_wp2_with fail
  obtain ⟨w1, hw1⟩ : ∃ w1, w1 = (w.alloc (.cells (List.replicate 32 (Value.int .u8 0)).toArray 31)).alloc (.cells #[Value.slice A n cap] 41) := ⟨_, rfl⟩
  have hb1 : Below w.heap.size w w1 := by rw [hw1]; exact ((Below.refl _ _).alloc (Nat.le_refl _) _).alloc (by simp) _
  have hz : w1.heap.size = w.heap.size + 2 := by rw [hw1]; simp
  have hcell : w1.cell? ⟨w.heap.size + 1, 0, none⟩ = some (.slice A n cap) := by rw [hw1]; exact blk_cell (heap_alloc2_new w _ _) rfl
  have hR : w1.heap[w.heap.size]? = some (.cells (List.replicate 32 (Value.int .u8 0)).toArray 31 (0, 0)) := by rw [hw1]; exact heap_alloc2_old w _ _
  have e : Calls Tryd.prog 70 #[.slice (some ⟨w.heap.size + 1, 0, none⟩) 1 1] w1 fun e w' => e = .returned (.agg (ints .u8 (shaOf bs))) ∧ Below w1.heap.size w1 w' := by
    have := of_any (w.heap.size + 1) 0 1 [⟨A, n, cap, bs⟩] w1 (fun i hi => by
      have h0 : i = 0 := by simpa using hi
      subst h0
      exact hcell) (by omega) (fun s hs => by
      have h0 : s = ⟨A, n, cap, bs⟩ := by simpa using hs
      subst h0
      exact ⟨Hrd.out.below hb1, HB.out, hcap⟩) (by simp [cat]; rw [Hrd.out.1]; exact hbig) (by simp)
    have ec : cat [⟨A, n, cap, bs⟩] = bs := by simp [cat]
    rw [ec] at this
    exact this
  have E1 := bx e; have HR := bx hR; have HB1 := bx hb1
  rw [hw1] at E1
  refine E1.out.mono ?_
  rw [← hw1]
  clear e hR hb1 hcell E1
  rintro e w2 ⟨rfl, hb2⟩
  obtain ⟨V, hV⟩ : ∃ V, V = ints .u8 (shaOf bs) := ⟨_, rfl⟩
  have hsz : V.size = 32 := by rw [hV, ints_size]; exact outBytes_length _ _
  have ho := ints_oneCell .u8 (shaOf bs)
  rw [← hV] at ho ⊢
  have hsz' : (Tryd.prog.info? 31).map (·.size) = some V.size := by rw [hsz]; kernel_rfl
  have HR5 := bx ((hb2.block w.heap.size (by omega)).trans HR.out)
  have HB5 := bx (HB1.out.trans (hb2.mono (by omega)))
  have HV := bx hV; have HS := bx hsz; have HO := bx ho; have HS' := bx hsz'
  clear hV hsz ho hsz' hb2 hw1 hz
  go_wp2_with ((with_reducible refine at_store (.tmp 2) (.tmp 5) ?_); go_must (have q1 := HS'.out; have q2 := HS.out; refine wpList_store_agg (cells := V) rfl 31 (.tmp 2) (.tmp 5) rfl w.heap.size 0 rfl rfl 31 _ HR5.out q1 (by rw [q2]; decide) HO.out V (by rw [putRow_all _ _ (by rw [Array.length_toList, q2]; decide)]) ?_; intro w9 hu9; clear q1 q2))
  refine bodyPost_ret (v := .agg V) (results_agg (cs := V) rfl _ _ w.heap.size 31 _ rfl hu9.same Tryd.underlying31 rfl HS'.out) rfl ⟨by rw [HV.out], ?_⟩
  exact HB5.out.trans (hu9.below (Nat.le_refl _))
theorem shaOf_length (bs : List Int) : (shaOf bs).length = 32 := outBytes_length _ _
end Go.Proofs.YthnommoljikaiaaDoor
