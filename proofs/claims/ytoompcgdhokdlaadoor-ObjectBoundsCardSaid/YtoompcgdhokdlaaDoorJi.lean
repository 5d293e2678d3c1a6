/- Objects, plain: what is read of bytes is what they were put of. No program in it. Objects: a reader's state as one; MarkOf of its own kind. Objects: MarkOf of its own kind. Objects: the closures of ChangeOf and TreeOf; the cells of a commit. -/
import Derived.Test.YtoompcgdhokdlaaDoorJh
set_option linter.unusedSimpArgs false
set_option linter.unusedVariables false
namespace Go.Proofs.YtoompcgdhokdlaaDoor
open Go.RowKit

theorem num_be4 {v : Int} (h0 : 0 ≤ v) (h1 : v < 4294967296) : num (be v 4) = v := by
  simp only [be, num, List.foldl_cons, List.foldl_nil, Nat.reduceMul, Int.reducePow]
  omega
theorem num_be8 {v : Int} (h0 : 0 ≤ v) (h1 : v < 18446744073709551616) : num (be v 8) = v := by
  simp only [be, num, List.foldl_cons, List.foldl_nil, Nat.reduceMul, Int.reducePow]
  omega
theorem num_be2 {v : Int} (h0 : 0 ≤ v) (h1 : v < 65536) : num (be v 2) = v := by
  simp only [be, num, List.foldl_cons, List.foldl_nil, Nat.reduceMul, Int.reducePow]
  omega
theorem num_one (v : Int) : num [v] = v := by simp [num]
theorem rOut_app {a b : List Int} {m : Nat} (h : a.length = m) (h1 : 1 ≤ m) : rOut (a ++ b) 0 m = a ∧ rRest (a ++ b) 0 m = b ∧ rBad (a ++ b) 0 m = 0 := by
  have hs : ¬ rShut 0 (m : Int) := by unfold rShut; omega
  have hl : ¬ (((a ++ b).length : Int) < m) := by rw [List.length_append]; omega
  refine ⟨?_, ?_, ?_⟩
  · rw [rOut, if_neg hs, if_neg hl]
    show (a ++ b).take m = a
    rw [← h, List.take_left']
    rfl
  · rw [rRest, if_neg hs, if_neg hl]
    show (a ++ b).drop m = b
    rw [← h, List.drop_left']
    rfl
  · rw [rBad, if_neg hs, if_neg hl]
/-- The reader's state: what is left, and what was wrong. -/
def stR (s : List Int × Int) (m : Int) : List Int × Int := (rRest s.1 s.2 m, rBad s.1 s.2 m)
def stO (s : List Int × Int) (m : Int) : List Int := rOut s.1 s.2 m
def stS (s : List Int × Int) : List Int × Int := (sRest s.1 s.2, sBad s.1 s.2)
def stT (s : List Int × Int) : List Int := sOut s.1 s.2
theorem stR_app {a b : List Int} (m : Nat) (h : a.length = m) (h1 : 1 ≤ m) : stR (a ++ b, 0) m = (b, 0) ∧ stO (a ++ b, 0) m = a := by
  obtain ⟨e1, e2, e3⟩ := rOut_app (a := a) (b := b) h h1
  exact ⟨by rw [stR, e2, e3], by rw [stO, e1]⟩
theorem stS_app {xs b : List Int} (h : xs.length ≤ 65536) : stS (be xs.length 4 ++ xs ++ b, 0) = (b, 0) ∧ stT (be xs.length 4 ++ xs ++ b, 0) = xs := by
  have hb : (be (xs.length : Int) 4).length = 4 := be_length _ _
  obtain ⟨e1, e2, e3⟩ := rOut_app (a := be xs.length 4) (b := xs ++ b) (m := 4) hb (by decide)
  have hn : num (be (xs.length : Int) 4) = xs.length := num_be4 (by omega) (by omega)
  rw [← List.append_assoc] at e1 e2 e3
  change rOut _ 0 4 = _ at e1
  change rRest _ 0 4 = _ at e2
  change rBad _ 0 4 = _ at e3
  unfold stS stT
  dsimp only
  rw [sOut, sRest, sBad, e1, e2, e3, hn, if_neg (by omega), if_neg (by omega), if_neg (by omega)]
  by_cases h0 : xs.length = 0
  · obtain rfl := List.eq_nil_of_length_eq_zero h0
    exact ⟨rfl, rfl⟩
  · obtain ⟨f1, f2, f3⟩ := rOut_app (a := xs) (b := b) (m := xs.length) rfl (by omega)
    rw [f1, f2, f3]
    exact ⟨rfl, rfl⟩
theorem stS_text {s : ByteArray} {b : List Int} (h : s.size ≤ 16384) : stS (textB s ++ b, 0) = (b, 0) ∧ stT (textB s ++ b, 0) = bytesOf s := by
  have := stS_app (xs := bytesOf s) (b := b) (by rw [bytesOf_length]; omega)
  rw [bytesOf_length] at this
  rw [textB_short (by omega)]
  exact this
theorem idR_app {a b : List Int} (h : a.length = 32) : idR (a ++ b) 0 = a := by
  have e : rOut (a ++ b) 0 32 = a := (rOut_app (m := 32) h (by decide)).1
  rw [idR, e, h]
  show a ++ [] = a
  rw [List.append_nil]
theorem done_end : doneO [] 0 = 0 := by simp [doneO, rWrong]
theorem fitO_ok {k k' : Int} {D d : List Int} (h : fitO k D = (k', d, 0)) : k' = k ∧ d = D ∧ D.length ≤ 16384 := by
  unfold fitO at h
  split at h
  · have h9 : (3 : Int) = 0 := congrArg (fun x => x.2.2) h
    exact absurd h9 (by decide)
  · have h1 := congrArg (fun x => x.1) h
    have h2 := congrArg (fun x => x.2.1) h
    exact ⟨h1.symm, h2.symm, by omega⟩
theorem fresh_ok {k : Int} {ds : List Int} {r : Int × List Int × Int} {de : Int} (h : freshO de r k ds = 0) : de = 0 ∧ r = (k, ds, 0) := by
  unfold freshO at h
  split at h
  · exact absurd h (by decide)
  · split at h
    · exact absurd h (by decide)
    · split at h
      · rename_i h1 h2 h3
        obtain ⟨a, b, c⟩ := r
        obtain ⟨rfl, rfl⟩ := h3
        refine ⟨by omega, ?_⟩
        have : c = 0 := by simpa using h2
        rw [this]
      · exact absurd h (by decide)
theorem fresh_same {k : Int} {ds : List Int} : freshO 0 (k, ds, 0) k ds = 0 := by simp [freshO]
theorem fresh_cases (de : Int) (r : Int × List Int × Int) (k : Int) (ds : List Int) : freshO de r k ds = 0 ∨ freshO de r k ds = 11 := by
  unfold freshO
  split
  · exact .inr rfl
  · split
    · exact .inr rfl
    · split
      · exact .inl rfl
      · exact .inr rfl

/-! ### Notes -/
theorem mark_made {k : Int} {id : List Int} {name text : ByteArray} {d : List Int} (h : markO id name text = (k, d, 0)) : k = 4 ∧ d = id ++ textB name ++ textB text ∧ d.length ≤ 16384 ∧ name.size ≤ 64 ∧ text.size ≤ 16384 := by
  unfold markO at h
  split at h
  · have h9 : (2 : Int) = 0 := congrArg (fun x => x.2.2) h
    exact absurd h9 (by decide)
  · rename_i hk
    obtain ⟨e1, e2, e3⟩ := fitO_ok h
    subst e1 e2
    refine ⟨rfl, rfl, e3, kind_short (by omega), ?_⟩
    rcases Nat.lt_or_ge 16384 text.size with h9 | h9
    · have := textB_long h9
      simp only [markD, List.length_append] at e3
      omega
    · exact h9
theorem mark_back {id : List Int} {name text : ByteArray} {d : List Int} (h : markO id name text = (4, d, 0)) (hid : id.length = 32) : mkId d = id ∧ strOfNums (mkN d) = name ∧ strOfNums (mkT d) = text ∧ markErr 4 d = 0 := by
  obtain ⟨_, rfl, _, hn, ht⟩ := mark_made h
  have a1 : idR (id ++ textB name ++ textB text) 0 = id := by rw [List.append_assoc]; exact idR_app hid
  have a2 := (stR_app (a := id) (b := textB name ++ textB text) 32 hid (by decide)).1
  rw [← List.append_assoc] at a2
  have a3 := stS_text (s := name) (b := textB text) (by omega)
  have a4 := stS_text (s := text) (b := []) (by omega)
  rw [List.append_nil] at a4
  have b1 : (rRest (id ++ textB name ++ textB text) 0 32, rBad (id ++ textB name ++ textB text) 0 32) = (textB name ++ textB text, 0) := a2
  have c1 := congrArg Prod.fst b1; have c2 := congrArg Prod.snd b1
  dsimp only at c1 c2
  have d1 := congrArg Prod.fst a3.1; have d2 := congrArg Prod.snd a3.1; have d3 := a3.2
  simp only [stS, stT] at d1 d2 d3
  have e1 := congrArg Prod.fst a4.1; have e2 := congrArg Prod.snd a4.1; have e3 := a4.2
  simp only [stS, stT] at e1 e2 e3
  have f1 : mkN (id ++ textB name ++ textB text) = bytesOf name := by rw [mkN, c1, c2, d3]
  have f2 : mkT (id ++ textB name ++ textB text) = bytesOf text := by rw [mkT, mkB2, mkE2, c1, c2, d1, d2, e3]
  have f3 : mkD (id ++ textB name ++ textB text) = 0 := by rw [mkD, mkB2, mkE2, c1, c2, d1, d2, e1, e2]; exact done_end
  refine ⟨a1, by rw [f1, str_bytes], by rw [f2, str_bytes], ?_⟩
  rw [markErr, if_neg (by decide), f1, f2, f3, str_bytes, str_bytes, mkId, a1, h]
  exact fresh_same

/-! ### Trees -/
def entsR : Nat → List Int × Int → List Ent × (List Int × Int)
  | 0, s => ([], s)
  | n + 1, s => if rWrong s.2 = 0 then
      (⟨strOfNums (stT (stR s 1)), decide (num (stO s 1) = 1), idR (stS (stR s 1)).1 (stS (stR s 1)).2⟩ :: (entsR n (stR (stS (stR s 1)) 32)).1, (entsR n (stR (stS (stR s 1)) 32)).2)
    else ([], s)
def noEnt : Ent := ⟨⟨#[]⟩, false, zero32⟩
def entF (l : List Ent) (j : Nat) : Ent := l.getD j noEnt
def tnN (ds : List Int) : Nat := (num (stO (ds, 0) 2)).toNat
def tnL (ds : List Int) : List Ent := (entsR (tnN ds) (stR (ds, 0) 2)).1
def tnS (ds : List Int) : List Int × Int := (entsR (tnN ds) (stR (ds, 0) 2)).2
def tnD (ds : List Int) : Int := doneO (tnS ds).1 (tnS ds).2
/-- What TreeOf tells to be wrong. -/
def treeErr (k : Int) (ds : List Int) : Int := if k ≠ 2 then 2 else freshO (tnD ds) (treeO (entF (tnL ds)) (tnL ds).length) k ds
theorem treeUp_congr {L M : Nat → Ent} (n : Nat) : ∀ j, (∀ i, i < j → L i = M i) → treeUp L n j = treeUp M n j
  | 0, _ => rfl
  | j + 1, h => by rw [treeUp_succ, treeUp_succ, treeUp_congr n j fun i hi => h i (by omega), h j (by omega)]
theorem badUp_congr {L M : Nat → Ent} : ∀ j, (∀ i, i < j → L i = M i) → badUp L j = badUp M j
  | 0, _ => rfl
  | j + 1, h => by
    rw [badUp_succ, badUp_succ, badUp_congr j fun i hi => h i (by omega)]
    congr 1
    unfold badAt
    rw [h j (by omega)]
    by_cases h0 : 0 < j
    · rw [h (j - 1) (by omega)]
    · simp [h0]
theorem treeO_congr {L M : Nat → Ent} {n : Nat} (h : ∀ i, i < n → L i = M i) : treeO L n = treeO M n := by
  rw [treeO, treeO, badUp_congr n h, treeUp_congr n n h]
theorem tree_made {k : Int} {L : Nat → Ent} {n : Nat} {d : List Int} (h : treeO L n = (k, d, 0)) : k = 2 ∧ d = treeUp L n n ∧ d.length ≤ 16384 ∧ n ≤ 32 ∧ ∀ i, i < n → (L i).name.size ≤ 64 := by
  unfold treeO at h
  split at h
  · have h9 : (3 : Int) = 0 := congrArg (fun x => x.2.2) h
    exact absurd h9 (by decide)
  · split at h
    · have h9 : (2 : Int) = 0 := congrArg (fun x => x.2.2) h
      exact absurd h9 (by decide)
    · rename_i h1 h2
      obtain ⟨e1, e2, e3⟩ := fitO_ok h
      subst e1 e2
      refine ⟨rfl, rfl, e3, by omega, fun i hi => ?_⟩
      apply part_short
      rcases hp : partB (L i).name.data.toList with _ | _
      · exact absurd (badUp_at L hi (by rw [badAt, hp]; rfl)) h2
      · rfl
theorem entB_app {e : Ent} {b : List Int} (hid : e.id.length = 32) (hn : e.name.size ≤ 64) :
    stR (entB e ++ b, 0) 1 = (textB e.name ++ (e.id ++ b), 0) ∧ stO (entB e ++ b, 0) 1 = [dirB e.dir] ∧ stS (textB e.name ++ (e.id ++ b), 0) = (e.id ++ b, 0) ∧ stT (textB e.name ++ (e.id ++ b), 0) = bytesOf e.name ∧ stR (e.id ++ b, 0) 32 = (b, 0) ∧ idR (e.id ++ b) 0 = e.id := by
  have e0 : entB e ++ b = [dirB e.dir] ++ (textB e.name ++ (e.id ++ b)) := by simp [entB]
  rw [e0]
  have h1 := stR_app (a := [dirB e.dir]) (b := textB e.name ++ (e.id ++ b)) 1 rfl (by decide)
  have h2 := stS_text (s := e.name) (b := e.id ++ b) (by omega)
  have h3 := stR_app (a := e.id) (b := b) 32 hid (by decide)
  exact ⟨h1.1, h1.2, h2.1, h2.2, h3.1, idR_app hid⟩
theorem entsR_app : ∀ (l : List Ent) (b : List Int), (∀ e ∈ l, e.id.length = 32 ∧ e.name.size ≤ 64) → entsR l.length (l.flatMap entB ++ b, 0) = (l, (b, 0))
  | [], b, _ => rfl
  | e :: l, b, h => by
    have he := h e (by simp)
    obtain ⟨h1, h2, h3, h4, h5, h6⟩ := entB_app (e := e) (b := l.flatMap entB ++ b) he.1 he.2
    have ih := entsR_app l b fun x hx => h x (by simp [hx])
    rw [List.length_cons, entsR, if_pos (by simp [rWrong]), List.flatMap_cons, List.append_assoc, h1, h2, h3, h4, h5, ih, h6, str_bytes, num_one]
    obtain ⟨nm, dr, ii⟩ := e
    cases dr <;> rfl
theorem tree_back {L : Nat → Ent} {n : Nat} {d : List Int} (h : treeO L n = (2, d, 0)) (hid : ∀ i, i < n → (L i).id.length = 32) : tnL d = (List.range n).map L ∧ treeErr 2 d = 0 := by
  obtain ⟨_, rfl, _, hn, hs⟩ := tree_made h
  have e0 : treeUp L n n = be (n : Int) 2 ++ (((List.range n).map L).flatMap entB ++ []) := by rw [List.append_nil, treeUp, List.flatMap_map]
  have h1 := stR_app (a := be (n : Int) 2) (b := ((List.range n).map L).flatMap entB ++ []) 2 (be_length _ _) (by decide)
  rw [← e0] at h1
  have hN : tnN (treeUp L n n) = n := by
    have e2 : stO (treeUp L n n, 0) 2 = be (n : Int) 2 := h1.2
    rw [tnN, e2, num_be2 (by omega) (by omega)]
    rfl
  have hE := entsR_app ((List.range n).map L) [] (by
    intro e he
    obtain ⟨i, hi, rfl⟩ := List.mem_map.1 he
    have hi' : i < n := by simpa using hi
    exact ⟨hid i hi', hs i hi'⟩)
  rw [List.length_map, List.length_range] at hE
  have e3 : stR (treeUp L n n, 0) 2 = (((List.range n).map L).flatMap entB ++ [], 0) := h1.1
  have hL : tnL (treeUp L n n) = (List.range n).map L := by rw [tnL, hN, e3, hE]
  have hS : tnS (treeUp L n n) = ([], 0) := by rw [tnS, hN, e3, hE]
  refine ⟨hL, ?_⟩
  have hD : tnD (treeUp L n n) = 0 := by rw [tnD, hS]; exact done_end
  have hF : treeO (entF ((List.range n).map L)) n = treeO L n := treeO_congr fun i hi => by
    simp [entF, List.getD_eq_getElem?_getD, hi]
  rw [treeErr, if_neg (by decide), hD, hL, List.length_map, List.length_range, hF, h]
  exact fresh_same

/-! ### Commits -/
def idsR : Nat → List Int × Int → List (List Int) × (List Int × Int)
  | 0, s => ([], s)
  | n + 1, s => if rWrong s.2 = 0 then (idR s.1 s.2 :: (idsR n (stR s 32)).1, (idsR n (stR s 32)).2) else ([], s)
def cg1 (ds : List Int) : List Int × Int := stR (ds, 0) 32
def cgN (ds : List Int) : Nat := (num (stO (cg1 ds) 1)).toNat
def cg2 (ds : List Int) : List Int × Int := stR (cg1 ds) 1
def cgP (ds : List Int) : List (List Int) := (idsR (cgN ds) (cg2 ds)).1
def cg3 (ds : List Int) : List Int × Int := (idsR (cgN ds) (cg2 ds)).2
def cg4 (ds : List Int) : List Int × Int := stR (cg3 ds) 8
def cg5 (ds : List Int) : List Int × Int := stS (cg4 ds)
def cg6 (ds : List Int) : List Int × Int := stS (cg5 ds)
def idF (l : List (List Int)) (j : Nat) : List Int := l.getD j zero32
def chgR (ds : List Int) (A : Option Addr) (cap : Nat) : ChgA :=
  { tree := idR ds 0, A := A, n := (cgP ds).length, cap := cap, P := idF (cgP ds), time := num (stO (cg3 ds) 8), author := strOfNums (stT (cg4 ds)), text := strOfNums (stT (cg5 ds)) }
/-- What ChangeOf tells to be wrong. -/
def chgErr (k : Int) (ds : List Int) : Int := if k ≠ 3 then 2 else freshO (doneO (cg6 ds).1 (cg6 ds).2) (changeO (chgR ds none 0)) k ds
theorem changeO_at (ds : List Int) (A : Option Addr) (cap : Nat) : changeO (chgR ds A cap) = changeO (chgR ds none 0) := rfl
theorem chIds_congr {P Q : Nat → List Int} {n : Nat} (h : ∀ i, i < n → P i = Q i) : chIds P n = chIds Q n := by
  unfold chIds
  exact List.map_congr_left fun i hi => h i (by simpa using hi)
theorem dupUp_congr {P Q : Nat → List Int} : ∀ n, (∀ i, i < n → P i = Q i) → dupUp P n = dupUp Q n
  | 0, _ => rfl
  | n + 1, h => by rw [dupUp_succ, dupUp_succ, dupUp_congr n fun i hi => h i (by omega), h n (by omega), chIds_congr fun i hi => h i (by omega)]
theorem chg_made {k : Int} {c : ChgA} {d : List Int} (h : changeO c = (k, d, 0)) : k = 3 ∧ d = c.d ∧ d.length ≤ 16384 ∧ c.n ≤ 4 ∧ c.author.size ≤ 16384 ∧ c.text.size ≤ 16384 := by
  unfold changeO at h
  split at h
  · have h9 : (3 : Int) = 0 := congrArg (fun x => x.2.2) h
    exact absurd h9 (by decide)
  · split at h
    · have h9 : (2 : Int) = 0 := congrArg (fun x => x.2.2) h
      exact absurd h9 (by decide)
    · rename_i h1 h2
      obtain ⟨e1, e2, e3⟩ := fitO_ok h
      subst e1 e2
      refine ⟨rfl, rfl, e3, by omega, ?_, ?_⟩
      · rcases Nat.lt_or_ge 16384 c.author.size with h9 | h9
        · have := textB_long h9
          simp only [ChgA.d, List.length_append] at e3
          omega
        · exact h9
      · rcases Nat.lt_or_ge 16384 c.text.size with h9 | h9
        · have := textB_long h9
          simp only [ChgA.d, List.length_append] at e3
          omega
        · exact h9
theorem idsR_app : ∀ (l : List (List Int)) (b : List Int), (∀ e ∈ l, e.length = 32) → idsR l.length (l.flatten ++ b, 0) = (l, (b, 0))
  | [], b, _ => rfl
  | e :: l, b, h => by
    have he := h e (by simp)
    have h1 := stR_app (a := e) (b := l.flatten ++ b) 32 he (by decide)
    have ih := idsR_app l b fun x hx => h x (by simp [hx])
    rw [List.length_cons, idsR, if_pos (by simp [rWrong]), List.flatten_cons, List.append_assoc, idR_app he]
    change (e :: (idsR l.length (stR (e ++ (l.flatten ++ b), 0) 32)).1, (idsR l.length (stR (e ++ (l.flatten ++ b), 0) 32)).2) = _
    have h2 : stR (e ++ (l.flatten ++ b), 0) 32 = (l.flatten ++ b, 0) := h1.1
    rw [h2, ih]
theorem chg_back {c : ChgA} {d : List Int} (h : changeO c = (3, d, 0)) (htree : c.tree.length = 32) (hids : ∀ j, j < c.n → (c.P j).length = 32) (ht0 : 0 ≤ c.time) (ht1 : c.time < 18446744073709551616) :
    idR d 0 = c.tree ∧ cgP d = chIds c.P c.n ∧ num (stO (cg3 d) 8) = c.time ∧ strOfNums (stT (cg4 d)) = c.author ∧ strOfNums (stT (cg5 d)) = c.text ∧ chgErr 3 d = 0 := by
  obtain ⟨_, rfl, _, hn, ha, ht⟩ := chg_made h
  obtain ⟨b5, hb5⟩ : ∃ b5, textB c.text ++ [] = b5 := ⟨_, rfl⟩
  obtain ⟨b4, hb4⟩ : ∃ b4, textB c.author ++ b5 = b4 := ⟨_, rfl⟩
  obtain ⟨b3, hb3⟩ : ∃ b3, be c.time 8 ++ b4 = b3 := ⟨_, rfl⟩
  obtain ⟨b2, hb2⟩ : ∃ b2, (chIds c.P c.n).flatten ++ b3 = b2 := ⟨_, rfl⟩
  obtain ⟨b1, hb1⟩ : ∃ b1, [(c.n : Int)] ++ b2 = b1 := ⟨_, rfl⟩
  have e0 : c.d = c.tree ++ b1 := by
    rw [← hb1, ← hb2, ← hb3, ← hb4, ← hb5]
    simp [ChgA.d, chUp]
  have i1 : idR c.d 0 = c.tree := by rw [e0]; exact idR_app htree
  have g1 : cg1 c.d = (b1, 0) := by rw [cg1, e0]; exact (stR_app (m := 32) htree (by decide)).1
  have h1 := stR_app (a := [(c.n : Int)]) (b := b2) 1 rfl (by decide)
  rw [hb1] at h1
  have g2 : cg2 c.d = (b2, 0) := by rw [cg2, g1]; exact h1.1
  have hN : cgN c.d = c.n := by
    have e2 : stO (b1, 0) 1 = [(c.n : Int)] := h1.2
    rw [cgN, g1, e2, num_one]
    rfl
  have hE := idsR_app (chIds c.P c.n) b3 (by
    intro e he
    obtain ⟨i, hi, rfl⟩ := List.mem_map.1 he
    exact hids i (by simpa using hi))
  have hl : (chIds c.P c.n).length = c.n := by simp [chIds]
  rw [hl, hb2] at hE
  have hP : cgP c.d = chIds c.P c.n := by rw [cgP, hN, g2, hE]
  have g3 : cg3 c.d = (b3, 0) := by rw [cg3, hN, g2, hE]
  have h3 := stR_app (a := be c.time 8) (b := b4) 8 (be_length _ _) (by decide)
  rw [hb3] at h3
  have g4 : cg4 c.d = (b4, 0) := by rw [cg4, g3]; exact h3.1
  have hT : num (stO (cg3 c.d) 8) = c.time := by
    have e2 : stO (b3, 0) 8 = be c.time 8 := h3.2
    rw [g3, e2, num_be8 ht0 ht1]
  have h4 := stS_text (s := c.author) (b := b5) ha
  rw [hb4] at h4
  have g5 : cg5 c.d = (b5, 0) := by rw [cg5, g4]; exact h4.1
  have hA : strOfNums (stT (cg4 c.d)) = c.author := by rw [g4, h4.2, str_bytes]
  have h5 := stS_text (s := c.text) (b := []) ht
  rw [hb5] at h5
  have g6 : cg6 c.d = ([], 0) := by rw [cg6, g5]; exact h5.1
  have hX : strOfNums (stT (cg5 c.d)) = c.text := by rw [g5, h5.2, str_bytes]
  refine ⟨i1, hP, hT, hA, hX, ?_⟩
  have hc : changeO (chgR c.d none 0) = changeO c := by
    have hq : ∀ i, i < c.n → idF (chIds c.P c.n) i = c.P i := fun i hi => by simp [idF, chIds, List.getD_eq_getElem?_getD, hi]
    unfold changeO
    have e1 : (chgR c.d none 0).n = c.n := by show (cgP c.d).length = _; rw [hP, hl]
    have e2 : (chgR c.d none 0).P = idF (chIds c.P c.n) := by show idF (cgP c.d) = _; rw [hP]
    have e3 : (chgR c.d none 0).d = c.d := by
      have q1 : (chgR c.d none 0).tree = c.tree := i1
      have q2 : (chgR c.d none 0).time = c.time := hT
      have q3 : (chgR c.d none 0).author = c.author := hA
      have q4 : (chgR c.d none 0).text = c.text := hX
      rw [ChgA.d, q1, q2, q3, q4, e1, e2, ChgA.d, chUp, chIds_congr hq, chUp]
    rw [e1, e2, e3, dupUp_congr c.n hq]
  rw [chgErr, if_neg (by decide), g6, hc, h]
  show freshO (doneO [] 0) _ _ _ = 0
  rw [done_end]
  exact fresh_same
end Go.Proofs.YtoompcgdhokdlaaDoor

set_option linter.unusedSimpArgs false
set_option linter.unusedVariables false
namespace Go.Proofs.YtoompcgdhokdlaaDoor
open Go.RowKit

/-- A reader, with what is left, and what was wrong. -/
def RdS (lo : Nat) (w : World) (R : Nat) (s : List Int × Int) : Prop := RdrL lo w R s.1 s.2 ∧ IsB s.1 ∧ s.1.length ≤ 35184372088832 ∧ lo ≤ R
theorem RdS.kept {lo R : Nat} {w w' : World} {s : List Int × Int} (h : RdS lo w R s) (hb : Below w.heap.size w w') : RdS lo w' R s := ⟨h.1.kept hb, h.2⟩
theorem RdS.upd {lo R g : Nat} {w w' : World} {o : Obj} {s : List Int × Int} (h : RdS lo w R s) (hu : Upd w w' g o) (hg : R < g ∨ g < lo) : RdS lo w' R s := ⟨h.1.upd' hu hg h.2.2.2, h.2⟩
theorem RdS.lt {lo R : Nat} {w : World} {s : List Int × Int} (h : RdS lo w R s) : R < w.heap.size := h.1.lt
theorem sOut_isB {bs : List Int} (h : IsB bs) (bad : Int) : IsB (sOut bs bad) := by
  unfold sOut
  split
  · exact isB_nil
  · exact rOut_isB (rRest_isB h _ _) _ _
theorem sRest_isB {bs : List Int} (h : IsB bs) (bad : Int) : IsB (sRest bs bad) := by
  unfold sRest
  split
  · exact isB_nil
  · exact rRest_isB (rRest_isB h _ _) _ _
theorem sRest_le (bs : List Int) (bad : Int) : (sRest bs bad).length ≤ bs.length := by
  unfold sRest
  split
  · simp
  · have h1 := rRest_le bs bad 4
    have h2 := rRest_le (rRest bs bad 4) (rBad bs bad 4) (num (rOut bs bad 4))
    omega
theorem sOut_len {bs : List Int} (hB : IsB bs) (bad : Int) : (sOut bs bad).length ≤ 65536 := by
  unfold sOut
  split
  · simp
  · have hn := num_lt (rOut bs bad 4) (rOut_isB hB bad 4) 4 (rOut_m bs bad 4)
    obtain ⟨m, hm⟩ : ∃ m : Nat, num (rOut bs bad 4) = m := ⟨(num (rOut bs bad 4)).toNat, by omega⟩
    rw [hm]
    have := rOut_m (rRest bs bad 4) (rBad bs bad 4) m
    omega
theorem num_s {lo R : Nat} {w : World} {s : List Int × Int} (m : Nat) (h : RdS lo w R s) (h1 : 1 ≤ m) (h8 : m ≤ 8) :
    Calls Tryd.prog 45 #[.pointer (some ⟨R, 0, none⟩), .int .i64 m] w fun e w' => e = .returned (.int .u64 (num (stO s m))) ∧ RdS lo w' R (stR s m) ∧ OnlyR R w w' :=
  (rnum_any w R s.1 s.2 m h.1 h.2.1 h1 h8 (by have := h.2.2.1; omega)).mono fun _ _ ⟨h1, h2, h3⟩ => ⟨h1, ⟨h2, rRest_isB h.2.1 _ _, Nat.le_trans (rRest_le _ _ _) h.2.2.1, h.2.2.2⟩, h3⟩
theorem sz_s {lo R : Nat} {w : World} {s : List Int × Int} (h : RdS lo w R s) :
    Calls Tryd.prog 47 #[.pointer (some ⟨R, 0, none⟩)] w fun e w' => ∃ A n c, e = .returned (.slice A n c) ∧ RdB w' A n (stT s) ∧ n ≤ 65536 ∧ RdS lo w' R (stS s) ∧ OnlyR R w w' :=
  (rsz_any w R s.1 s.2 h.1 h.2.1 h.2.2.1).mono fun _ _ ⟨v, h1, h2, h3, h4⟩ => by
    obtain ⟨A, c, rfl, hr, _, _⟩ := h2.rdn rfl
    exact ⟨A, _, c, h1, hr, sOut_len h.2.1 _, ⟨h3, sRest_isB h.2.1 _, Nat.le_trans (sRest_le _ _) h.2.2.1, h.2.2.2⟩, h4⟩
theorem id_s {lo R : Nat} {w : World} {s : List Int × Int} (h : RdS lo w R s) :
    Calls Tryd.prog 44 #[.pointer (some ⟨R, 0, none⟩)] w fun e w' => e = .returned (.agg (ints .u8 (idR s.1 s.2))) ∧ RdS lo w' R (stR s 32) ∧ OnlyR R w w' :=
  (id10_any w R s.1 s.2 h.2.2.2 h.1 h.2.2.1).mono fun _ _ ⟨h1, h2, h3⟩ => ⟨h1, ⟨h2, rRest_isB h.2.1 _ _, Nat.le_trans (rRest_le _ _ _) h.2.2.1, h.2.2.2⟩, h3⟩
theorem wrong_s {lo R : Nat} {w : World} {s : List Int × Int} (h : RdS lo w R s) :
    Calls Tryd.prog 46 #[.pointer (some ⟨R, 0, none⟩)] w fun e w' => e = .returned (.int .i64 (rWrong s.2)) ∧ w = w' := rwrong_any w R s.1 s.2 h.1
theorem new_s (A : Option Addr) (n cap : Nat) (bs : List Int) (w : World) (hrd : RdB w A n bs) (hnil : A = none → cap = 0) (hB : IsB bs) (hbig : n ≤ 35184372088832) :
    Calls Tryd.prog 43 #[.slice A n cap] w fun e w' => ∃ R, e = .returned (.pointer (some ⟨R, 0, none⟩)) ∧ RdS w.heap.size w' R (bs, 0) ∧ w.heap.size ≤ R ∧ Below w.heap.size w w' :=
  (rnewL_any A n cap bs w hrd hnil hbig).mono fun _ _ ⟨R, h1, h2, h3, h4⟩ => ⟨R, h1, ⟨h2, hB, by rw [hrd.1]; exact hbig, h3⟩, h3, h4⟩
theorem isB_app {a b : List Int} (ha : IsB a) (hb : IsB b) : IsB (a ++ b) := isB_append ha hb
theorem textB_isB (s : ByteArray) : IsB (textB s) := isB_append (be_isB _ _) (isB_take (bytesOf_isB s) _)
theorem fitO_isB {k : Int} {d : List Int} (h : IsB d) : IsB (fitO k d).2.1 := by
  unfold fitO
  split
  · exact isB_nil
  · exact h
theorem markO_isB {id : List Int} {name text : ByteArray} (h : IsB id) : IsB (markO id name text).2.1 := by
  unfold markO
  split
  · exact isB_nil
  · exact fitO_isB (isB_append (isB_append h (textB_isB _)) (textB_isB _))
theorem mark_built1 (id : List Int) (h : id.length = 32) : Tryd.prog.built 30 [(0, .agg (ints .u8 id))] = some (markCells id ⟨#[]⟩ ⟨#[]⟩).toArray := by
  obtain ⟨a0, a1, a2, a3, a4, a5, a6, a7, a8, a9, a10, a11, a12, a13, a14, a15, b0, b1, b2, b3, b4, b5, b6, b7, b8, b9, b10, b11, b12, b13, b14, b15, rfl⟩ := thirtytwo id h
  kernel_rfl
theorem mark_set1 {id : List Int} (h : id.length = 32) (a b c : ByteArray) : (markCells id a b).toArray.setIfInBounds 32 (.string c) = (markCells id c b).toArray := by
  have e : (u8s id).length = 32 := by rw [u8s_length, h]
  simp [markCells, List.set_append, e]
theorem mark_set2 {id : List Int} (h : id.length = 32) (a b c : ByteArray) : (markCells id a b).toArray.setIfInBounds 33 (.string c) = (markCells id a c).toArray := by
  have e : (u8s id).length = 32 := by rw [u8s_length, h]
  simp [markCells, List.set_append, e]
end Go.Proofs.YtoompcgdhokdlaaDoor

set_option linter.unusedSimpArgs false
set_option linter.unusedVariables false
namespace Go.Proofs.YtoompcgdhokdlaaDoor
open Go.RowKit

theorem mark_size {id : List Int} (h : id.length = 32) (a b : ByteArray) : (markCells id a b).toArray.size = 34 := by simp [markCells, u8s, h]
set_option maxRecDepth 100000 in
set_option maxHeartbeats 4000000 in
theorem markof_any (A : Option Addr) (n cap : Nat) (ds : List Int) (w : World) (hM : MaxAt w) (hrd : RdB w A n ds) (hnil : A = none → cap = 0) (hB : IsB ds) (hbig : n ≤ 35184372088832) :
    Calls Tryd.prog 23 #[.agg (objC 4 (.slice A n cap))] w (MarkP w 4 ds) := by
  have HE0 : markErr 4 ds = freshO (doneO (stS (stS (stR (ds, 0) 32))).1 (stS (stS (stR (ds, 0) 32))).2) (markO (idR ds 0) (strOfNums (stT (stR (ds, 0) 32))) (strOfNums (stT (stS (stR (ds, 0) 32))))) 4 ds := rfl
  have HP0 : ∀ e w', (∃ X, e = .returned (.tuple #[.agg X, .int .i64 (markErr 4 ds)]) ∧ X = (if markErr 4 ds = 0 then (markCells (idR ds 0) (strOfNums (stT (stR (ds, 0) 32))) (strOfNums (stT (stS (stR (ds, 0) 32))))).toArray else (markCells zero32 ⟨#[]⟩ ⟨#[]⟩).toArray)) → Below w.heap.size w w' → MarkP w 4 ds e w' := by
    rintro e w' ⟨X, rfl, rfl⟩ hb
    exact ⟨rfl, hb⟩
  have hid := idR_length ds 0
  have hidB := idR_isB hB 0
  have hB1 : IsB (stR (ds, 0) 32).1 := rRest_isB hB 0 32
  have hn1 : (stT (stR (ds, 0) 32)).length ≤ 65536 := sOut_len hB1 _
  generalize markErr 4 ds = me at *
  generalize MarkP w 4 ds = OUT at *
  obtain ⟨id, hidE⟩ : ∃ id, idR ds 0 = id := ⟨_, rfl⟩
  rw [hidE] at HE0 HP0 hid hidB
  have HID := bx hidE
  clear hidE
  obtain ⟨s1, hs1⟩ : ∃ s1, stR (ds, 0) 32 = s1 := ⟨_, rfl⟩
  obtain ⟨s2, hs2⟩ : ∃ s2, stS s1 = s2 := ⟨_, rfl⟩
  obtain ⟨s3, hs3⟩ : ∃ s3, stS s2 = s3 := ⟨_, rfl⟩
  rw [hs1, hs2, hs3] at HE0
  rw [hs1, hs2] at HP0
  rw [hs1] at hn1
  obtain ⟨nm, hnm⟩ : ∃ nm, strOfNums (stT s1) = nm := ⟨_, rfl⟩
  obtain ⟨tx, htx⟩ : ∃ tx, strOfNums (stT s2) = tx := ⟨_, rfl⟩
  have hns : nm.size ≤ 65536 := by rw [← hnm, strLen]; exact hn1
  rw [hnm, htx] at HE0 HP0
  have hBr := markO_isB (name := nm) (text := tx) hidB
  have HMO : ∀ b w', MaxAt w' → w'.heap[b]? = some (.cells (markCells id nm tx).toArray 30 (0, 0)) → ∀ w2, Below w'.heap.size w' w2 → Calls Tryd.prog 52 #[.pointer (some ⟨b, 0, none⟩)] w2 (ObjO w2 (markO id nm tx)) := fun b w' hM hk w2 hb =>
    markclo_any b id nm tx w2 (hM.below hb) ((hb.block _ (blk_lt hk)).trans hk) hid (by omega)
  have HMO := bx HMO; have HBR := bx hBr
  generalize markO id nm tx = r at *
  have MB0 := bx mark_built0; have MI0 := bx (mark_is zero32 ⟨#[]⟩ ⟨#[]⟩ rfl); have MO0 := bx (mark_one zero32 ⟨#[]⟩ ⟨#[]⟩)
  have MB1 := bx (mark_built1 id hid); have MI1 := bx (mark_is id ⟨#[]⟩ ⟨#[]⟩ hid); have MO1 := bx (mark_one id ⟨#[]⟩ ⟨#[]⟩); have MS1 := bx (mark_size hid ⟨#[]⟩ ⟨#[]⟩)
  have MX1 := bx (mark_set1 hid ⟨#[]⟩ ⟨#[]⟩ nm); have MX2 := bx (mark_set2 hid nm ⟨#[]⟩ tx); have MG1 := bx (mark_get hid ⟨#[]⟩ ⟨#[]⟩); have MG2 := bx (mark_get hid nm ⟨#[]⟩)
  have MI3 := bx (mark_is id nm tx hid); have MO3 := bx (mark_one id nm tx)
  obtain ⟨MZ, hMZ⟩ : ∃ MZ, (markCells zero32 ⟨#[]⟩ ⟨#[]⟩).toArray = MZ := ⟨_, rfl⟩
  obtain ⟨M1, hM1⟩ : ∃ M1, (markCells id ⟨#[]⟩ ⟨#[]⟩).toArray = M1 := ⟨_, rfl⟩
  obtain ⟨M2, hM2⟩ : ∃ M2, (markCells id nm ⟨#[]⟩).toArray = M2 := ⟨_, rfl⟩
  obtain ⟨M3, hM3⟩ : ∃ M3, (markCells id nm tx).toArray = M3 := ⟨_, rfl⟩
  rw [hM1] at MB1 MI1 MO1 MS1 MX1 MG1
  rw [hM2] at MX1 MX2 MG2
  rw [hM3] at MX2 MI3 MO3 HMO HP0
  obtain ⟨w0, hw0⟩ : ∃ w0, w0 = (w.alloc (.cells (objC 4 (.slice A n cap)) 35)).alloc (.cells ((markCells zero32 ⟨#[]⟩ ⟨#[]⟩).toArray) 30) := ⟨_, rfl⟩
  have K0 : Bx (w0.heap[w.heap.size]? = some (.cells (objC 4 (.slice A n cap)) 35 (0, 0))) := ⟨by rw [hw0]; exact heap_alloc2_old w _ _⟩
  have K1 : Bx (w0.heap[w.heap.size + 1]? = some (.cells ((markCells zero32 ⟨#[]⟩ ⟨#[]⟩).toArray) 30 (0, 0))) := ⟨by rw [hw0]; exact heap_alloc2_new w _ _⟩
  have D0 : Bx (Below w.heap.size w w0) := ⟨by rw [hw0]; exact (((Below.refl _ _).alloc (Nat.le_refl _) _).alloc (by simp; try omega) _)⟩
  have hsz0 : w0.heap.size = w.heap.size + 2 := by rw [hw0]; simp
  have SZ0 := bx hsz0; clear hsz0
  have HW := bx hw0; clear hw0
  have z0 : w0.cell? ⟨w.heap.size, 0, none⟩ = some (.int .i64 4) := blk_cell K0.out rfl
  have z1 : w0.cell? ⟨w.heap.size, 1, none⟩ = some (.slice A n cap) := blk_cell K0.out rfl
  have HP := bx HP0; have HE := bx HE0; have HM := bx hM; have HRD := bx hrd; have HN := bx hnil; have HB := bx hB; have HS1 := bx hs1; have HS2 := bx hs2; have HS3 := bx hs3; have HNM := bx hnm; have HTX := bx htx
  clear HP0 HE0 hM hrd hnil hB hs1 hs2 hs3 hnm htx hid hidB hBr hB1 hn1 hM1 hM2 hM3
  go_enter Tryd.func23, Tryd.ntmps23
  go_upto_region 1 with fail
  have E := HW.out.symm
  simp only [markCells, u8s, zero32, List.replicate, List.map, List.cons_append, List.nil_append] at E
  rw [E]
  clear E HW
  rw [hMZ] at MB0 MI0 MO0 K1 HP
  clear hMZ
  go_wp2_with fail
  refine (new_s A n cap ds w0 (HRD.out.below D0.out) HN.out HB.out hbig).mono ?_
  rintro e w1 ⟨R, rfl, hS, hRl, hb⟩
  have S0 := bx hS
  replace K0 := bx (((hb).block _ (blk_lt K0.out)).trans K0.out)
  replace K1 := bx (((hb).block _ (blk_lt K1.out)).trans K1.out)
  replace D0 := bx (D0.out.trans ((hb).mono D0.out.size))
  have hR2 : w.heap.size + 2 ≤ R := by have := SZ0.out; omega
  have LO : Bx (w0.heap.size = w.heap.size + 2) := SZ0
  clear hS hb hRl z0 z1 SZ0
  go_wp2_with fail
  have hI := id_s S0.out
  dsimp only at hI
  rw [HID.out] at hI
  refine hI.mono ?_
  rintro e w2 ⟨rfl, hS, ho⟩
  have S1 : Bx (RdS w0.heap.size w2 R s1) := ⟨HS1.out ▸ hS⟩
  replace K0 := bx (((ho).block _ (blk_lt K0.out) (by omega)).trans K0.out)
  replace K1 := bx (((ho).block _ (blk_lt K1.out) (by omega)).trans K1.out)
  replace D0 := bx (D0.out.trans ((ho).below D0.out.size (by omega)))
  clear hS ho S0 hI
  have hRM := S1.out.lt
  go_upto_region 5 with (first
    | ((with_reducible refine at_build 16 ?_); go_must (refine wpList_build2 rfl 30 [(0, .tmp 15)] rfl _ rfl M1 MB1.out ?_))
    | ((with_reducible refine at_store (.tmp 5) (.tmp 16) ?_); go_must (refine store_all (cs := M1) 30 (.tmp 5) (.tmp 16) rfl rfl rfl rfl (blk_new w2 _) MI1.out (by rw [MS1.out]; rfl) MO1.out ?_; intro w3 hu3; have K5 := bx hu3.same; have F3 := bx (((Below.refl w2.heap.size w2).alloc (Nat.le_refl _) _).trans (hu3.below (Nat.le_refl _))); clear hu3)))
  replace K0 := bx (((F3.out).block _ (blk_lt K0.out)).trans K0.out)
  replace K1 := bx (((F3.out).block _ (blk_lt K1.out)).trans K1.out)
  replace S1 := bx (S1.out.kept F3.out)
  replace D0 := bx (D0.out.trans ((F3.out).mono D0.out.size))
  clear F3
  have hD3 := D0.out.size
  go_wp2_with fail
  refine (sz_s S1.out).mono ?_
  rintro e w4 ⟨A4, n4, c4, rfl, hr, hn4, hS, ho⟩
  have S2 : Bx (RdS w0.heap.size w4 R s2) := ⟨HS2.out ▸ hS⟩
  replace K0 := bx (((ho).block _ (blk_lt K0.out) (by omega)).trans K0.out)
  replace K1 := bx (((ho).block _ (blk_lt K1.out) (by omega)).trans K1.out)
  replace K5 := bx (((ho).block _ (blk_lt K5.out) (by omega)).trans K5.out)
  replace D0 := bx (D0.out.trans ((ho).below D0.out.size (by omega)))
  have hcv := str_of hr c4
  rw [HNM.out] at hcv
  clear hS ho S1 hr
  have z5 : w4.cell? ⟨w2.heap.size, 32, none⟩ = some (.string ⟨#[]⟩) := blk_cell K5.out MG1.out.1
  have f5 : w4.frozen? ⟨w2.heap.size, 32, none⟩ = false := blk_frozen 32 K5.out
  obtain ⟨w5, hw5⟩ : ∃ w5, w5 = w4.setCell ⟨w2.heap.size, 32, none⟩ (.string nm) := ⟨_, rfl⟩
  have hu5 := upd_cell (j := 32) K5.out (.string nm)
  rw [← hw5, MX1.out] at hu5
  have hlw : w.heap.size + 2 ≤ w2.heap.size := by omega
  replace K0 := bx ((hu5).blk K0.out (by omega))
  replace K1 := bx ((hu5).blk K1.out (by omega))
  replace D0 := bx (D0.out.trans ((hu5).below (by omega)))
  have S3 : Bx (RdS w0.heap.size w5 R s2) := ⟨S2.out.upd hu5 (.inl hRM)⟩
  replace K5 := bx hu5.same
  have HW5 := bx hw5
  clear hu5 hw5 S2
  go_wp2_with fail
  rw [← HW5.out]
  clear HW5 z5 f5 hcv
  refine (sz_s S3.out).mono ?_
  rintro e w6 ⟨A6, n6, c6, rfl, hr, hn6, hS, ho⟩
  have S4 : Bx (RdS w0.heap.size w6 R s3) := ⟨HS3.out ▸ hS⟩
  replace K0 := bx (((ho).block _ (blk_lt K0.out) (by omega)).trans K0.out)
  replace K1 := bx (((ho).block _ (blk_lt K1.out) (by omega)).trans K1.out)
  replace K5 := bx (((ho).block _ (blk_lt K5.out) (by omega)).trans K5.out)
  replace D0 := bx (D0.out.trans ((ho).below D0.out.size (by omega)))
  have hcv := str_of hr c6
  rw [HTX.out] at hcv
  clear hS ho S3 hr
  have z5 : w6.cell? ⟨w2.heap.size, 33, none⟩ = some (.string ⟨#[]⟩) := blk_cell K5.out MG2.out.2
  have f5 : w6.frozen? ⟨w2.heap.size, 33, none⟩ = false := blk_frozen 33 K5.out
  obtain ⟨w7, hw7⟩ : ∃ w7, w7 = w6.setCell ⟨w2.heap.size, 33, none⟩ (.string tx) := ⟨_, rfl⟩
  have hu7 := upd_cell (j := 33) K5.out (.string tx)
  rw [← hw7, MX2.out] at hu7
  replace K0 := bx ((hu7).blk K0.out (by omega))
  replace K1 := bx ((hu7).blk K1.out (by omega))
  replace D0 := bx (D0.out.trans ((hu7).below (by omega)))
  have S5 : Bx (RdS w0.heap.size w7 R s3) := ⟨S4.out.upd hu7 (.inl hRM)⟩
  replace K5 := bx hu7.same
  have HW7 := bx hw7
  clear hu7 hw7 S4
  go_wp2_with (first
    | ((with_reducible refine at_load 25 ?_); rw [← HW7.out]; go_must (refine load_all 35 (.tmp 1) rfl rfl rfl K0.out Tryd.underlying35 rfl (obj_is _ _ _ _) ?_)))
  clear HW7 z5 f5 hcv
  refine (fresh_mark 4 A n cap ds R s3.1 s3.2 _ r w7 (HRD.out.below D0.out) HB.out HBR.out S5.out.1 (fun w' hb => HMO.out _ w7 (HM.out.below D0.out) K5.out w' hb)).mono ?_
  rintro e w8 ⟨rfl, hb⟩
  replace K1 := bx (((hb).block _ (blk_lt K1.out)).trans K1.out)
  replace K5 := bx (((hb).block _ (blk_lt K5.out)).trans K5.out)
  replace D0 := bx (D0.out.trans ((hb).mono D0.out.size))
  rw [← HE.out]
  clear hb S5 HE HMO HBR HRD HM HB
  by_cases hme : me = 0
  · subst hme
    rw [if_pos rfl] at HP
    go_wp2_with (first
      | ((with_reducible refine at_load 33 ?_); go_must (refine load_all 30 (.tmp 5) rfl rfl rfl K5.out Tryd.underlying30 rfl MI3.out ?_))
      | ((with_reducible refine at_store (.tmp 2) (.tmp 33) ?_); go_must (refine store_all (cs := M3) 30 (.tmp 2) (.tmp 33) rfl rfl rfl rfl K1.out MI3.out (by rw [← Option.some_inj, ← MI3.out, MI0.out]) MO3.out ?_; intro w9 hu9; have R9 := bx hu9.same; have D9 := bx (D0.out.trans (hu9.below (Nat.le_succ _))); clear hu9)))
    refine bodyPost_ret (results_ct (cs := M3) rfl _ _ (w.heap.size + 1) 30 _ _ rfl rfl R9.out Tryd.underlying30 rfl MI3.out) rfl ?_
    exact HP.out _ _ ⟨_, rfl, rfl⟩ D9.out
  · have h0 : (me == 0) = false := by simp [hme]
    have h1 : (me != 0) = true := by simp [hme]
    rw [if_neg hme] at HP
    clear hme
    go_wp2_with (first
      | ((with_reducible refine at_build 31 ?_); go_must (refine wpList_build2 rfl 30 [] rfl [] rfl MZ MB0.out ?_))
      | ((with_reducible refine at_store (.tmp 2) (.tmp 31) ?_); go_must (refine store_all (cs := MZ) 30 (.tmp 2) (.tmp 31) rfl rfl rfl rfl K1.out MI0.out rfl MO0.out ?_; intro w9 hu9; have R9 := bx hu9.same; have D9 := bx (D0.out.trans (hu9.below (Nat.le_succ _))); clear hu9)))
    refine bodyPost_ret (results_ct (cs := MZ) rfl _ _ (w.heap.size + 1) 30 _ _ rfl rfl R9.out Tryd.underlying30 rfl MI0.out) rfl ?_
    exact HP.out _ _ ⟨_, rfl, rfl⟩ D9.out
end Go.Proofs.YtoompcgdhokdlaaDoor

set_option linter.unusedSimpArgs false
set_option linter.unusedVariables false
namespace Go.Proofs.YtoompcgdhokdlaaDoor
open Go.RowKit

theorem RdS.below {lo R B : Nat} {w w' : World} {s : List Int × Int} (h : RdS lo w R s) (hb : Below B w w') (hR : R < B) : RdS lo w' R s := by
  refine ⟨?_, h.2⟩
  obtain ⟨A, c, h1, h2, h3, h4, h5⟩ := h.1
  refine ⟨A, c, (hb.block R hR).trans h1, ⟨h2.1, fun hn => ?_⟩, h3, h4, h5⟩
  obtain ⟨b, o', rfl, hb9, hc⟩ := h2.2 hn
  have hlt : lo ≤ b ∧ b < R := h5 _ rfl
  refine ⟨b, o', rfl, Nat.lt_of_lt_of_le hb9 hb.size, fun j hj => ?_⟩
  rw [← hc j hj]
  exact World.cell?_of_block (a := ⟨b, o' + j, none⟩) (hb.block b (by omega))
theorem num_s1 {lo R : Nat} {w : World} {s : List Int × Int} (h : RdS lo w R s) : Calls Tryd.prog 45 #[.pointer (some ⟨R, 0, none⟩), .int .i64 1] w fun e w' => e = .returned (.int .u64 (num (stO s 1))) ∧ RdS lo w' R (stR s 1) ∧ OnlyR R w w' := num_s 1 h (by decide) (by decide)
theorem num_s2 {lo R : Nat} {w : World} {s : List Int × Int} (h : RdS lo w R s) : Calls Tryd.prog 45 #[.pointer (some ⟨R, 0, none⟩), .int .i64 2] w fun e w' => e = .returned (.int .u64 (num (stO s 2))) ∧ RdS lo w' R (stR s 2) ∧ OnlyR R w w' := num_s 2 h (by decide) (by decide)
theorem num_s8 {lo R : Nat} {w : World} {s : List Int × Int} (h : RdS lo w R s) : Calls Tryd.prog 45 #[.pointer (some ⟨R, 0, none⟩), .int .i64 8] w fun e w' => e = .returned (.int .u64 (num (stO s 8))) ∧ RdS lo w' R (stR s 8) ∧ OnlyR R w w' := num_s 8 h (by decide) (by decide)
theorem OwR.only {w w' : World} {base s n R : Nat} {T : TypeId} {v : Value} {f : Nat → List Value} (h : OwR w base T s v n f) (ho : OnlyR R w w') (hR : R < base) : OwR w' base T s v n f := by
  obtain ⟨h1, h2 | ⟨g, cap, cur, e, hg, hh, h2⟩⟩ := h
  · exact ⟨h1, .inl h2⟩
  · exact ⟨h1, .inr ⟨g, cap, cur, e, hg, (ho.block g (blk_lt hh) (by omega)).trans hh, h2⟩⟩
theorem OwR.upd {w w' : World} {base s n g0 : Nat} {T : TypeId} {v : Value} {f : Nat → List Value} {o : Obj} (h : OwR w base T s v n f) (hu : Upd w w' g0 o) (hg0 : g0 < base) : OwR w' base T s v n f := by
  obtain ⟨h1, h2 | ⟨g, cap, cur, e, hg, hh, h2⟩⟩ := h
  · exact ⟨h1, .inl h2⟩
  · exact ⟨h1, .inr ⟨g, cap, cur, e, hg, hu.blk hh (by omega), h2⟩⟩
theorem OwR.nilcap {w : World} {base s n cap : Nat} {A : Option Addr} {T : TypeId} {f : Nat → List Value} (h : OwR w base T s (.slice A n cap) n f) : A = none → cap = 0 := by
  rintro rfl
  obtain ⟨_, ⟨h1, _⟩ | ⟨g, c, cur, h1, _⟩⟩ := h
  · cases h1; rfl
  · cases h1
def chgV (tree : List Int) (v : Value) (t : Int) (a x : ByteArray) : Array Value := (u8s tree ++ [v, .int .u64 t, .string a, .string x]).toArray
theorem chgV_size {tree : List Int} (h : tree.length = 32) (v : Value) (t : Int) (a x : ByteArray) : (chgV tree v t a x).size = 36 := by simp [chgV, u8s, h]
theorem chgV_is {tree : List Int} (h : tree.length = 32) (v : Value) (t : Int) (a x : ByteArray) : (Tryd.prog.info? 28).map (·.size) = some (chgV tree v t a x).size := by
  have h9 : (Tryd.prog.info? 28).map (·.size) = some 36 := by kernel_rfl
  rw [h9, chgV_size h]
theorem chgV_one (tree : List Int) {v : Value} (hv : v.oneCell' = true) (t : Int) (a x : ByteArray) : ∀ u ∈ (chgV tree v t a x).toList, u.oneCell' = true := by
  intro u hu
  simp only [chgV, u8s, List.mem_append, List.mem_map, List.mem_cons, List.not_mem_nil, or_false] at hu
  rcases hu with ⟨y, _, rfl⟩ | rfl | rfl | rfl | rfl
  · rfl
  · exact hv
  all_goals rfl
theorem chgV_get {tree : List Int} (h : tree.length = 32) (v : Value) (t : Int) (a x : ByteArray) : (chgV tree v t a x)[32]? = some v ∧ (chgV tree v t a x)[33]? = some (.int .u64 t) ∧ (chgV tree v t a x)[34]? = some (.string a) ∧ (chgV tree v t a x)[35]? = some (.string x) := by
  have e : (u8s tree).length = 32 := by rw [u8s_length, h]
  refine ⟨?_, ?_, ?_, ?_⟩ <;>
  · rw [chgV, List.getElem?_toArray, List.getElem?_append_right (by omega), e]; rfl
theorem chgV_set {tree : List Int} (h : tree.length = 32) (v v' : Value) (t t' : Int) (a a' x x' : ByteArray) : (chgV tree v t a x).setIfInBounds 32 v' = chgV tree v' t a x ∧ (chgV tree v t a x).setIfInBounds 33 (.int .u64 t') = chgV tree v t' a x ∧ (chgV tree v t a x).setIfInBounds 34 (.string a') = chgV tree v t a' x ∧ (chgV tree v t a x).setIfInBounds 35 (.string x') = chgV tree v t a x' := by
  have e : (u8s tree).length = 32 := by rw [u8s_length, h]
  refine ⟨?_, ?_, ?_, ?_⟩ <;> simp [chgV, List.set_append, e]
theorem chg_built0 : Tryd.prog.built 28 [] = some (chgV zero32 (.slice none 0 0) 0 ⟨#[]⟩ ⟨#[]⟩) := by kernel_rfl
theorem chg_built1 (id : List Int) (h : id.length = 32) : Tryd.prog.built 28 [(0, .agg (ints .u8 id))] = some (chgV id (.slice none 0 0) 0 ⟨#[]⟩ ⟨#[]⟩) := by
  obtain ⟨a0, a1, a2, a3, a4, a5, a6, a7, a8, a9, a10, a11, a12, a13, a14, a15, b0, b1, b2, b3, b4, b5, b6, b7, b8, b9, b10, b11, b12, b13, b14, b15, rfl⟩ := thirtytwo id h
  kernel_rfl
theorem infoId : (Tryd.prog.info? 24).map (fun i => (i.zero, i.size, i.bytes)) = some (some (.agg (ints .u8 zero32)), 32, 32) := by kernel_rfl
theorem infoEn : (Tryd.prog.info? 32).map (fun i => (i.zero, i.size, i.bytes)) = some (some (.agg (Ent.cells noEnt).toArray), 34, 56) := by kernel_rfl
set_option maxRecDepth 100000 in
set_option maxHeartbeats 1000000 in
theorem chgclo_any (b : Nat) (c : ChgA) (w : World) (hk : w.heap[b]? = some (.cells c.cells.toArray 28 (0, 0))) (hF : c.Full w) :
    Calls Tryd.prog 49 #[.pointer (some ⟨b, 0, none⟩)] w (ObjO w (changeO c)) := by
  obtain ⟨w0, hw0⟩ : ∃ w0, w0 = w.alloc (.cells (objC 0 (.slice none 0 0)) 35) := ⟨_, rfl⟩
  have K0 : Bx (w0.heap[w.heap.size]? = some (.cells (objC 0 (.slice none 0 0)) 35 (0, 0))) := ⟨by rw [hw0]; exact blk_new w _⟩
  have D0 : Bx (Below w.heap.size w w0) := ⟨by rw [hw0]; exact ((Below.refl _ _).alloc (Nat.le_refl _) _)⟩
  have hsz0 : w0.heap.size = w.heap.size + 1 := by rw [hw0]; simp
  have SZ0 := bx hsz0; clear hsz0
  have HW := bx hw0; clear hw0
  have LIT : Bx (w.alloc (.cells #[.int .i64 0, .slice none 0 0] 35) = w0) := ⟨HW.out.symm⟩
  have KM := bx ((D0.out.block _ (blk_lt hk)).trans hk)
  have HIM := bx (chg_is c hF.1)
  have HMK : Bx (Calls Tryd.prog 10 #[.agg c.cells.toArray] w0 (ObjO w0 (changeO c))) := ⟨ofchange_any c w0 ⟨hF.1, hF.2.1.below D0.out, hF.2.2⟩⟩
  have RO : Bx (∀ (r : Int × List Int × Int) A c' w', changeO c = r → RdB w' A r.2.1.length r.2.1 → (A = none → c' = 0) → r.2.1.length ≤ c' → Below w.heap.size w w' → ObjO w (changeO c) (.returned (.tuple #[.agg (objC r.1 (.slice A r.2.1.length c')), .int .i64 r.2.2])) w') := ⟨fun r A c' w' hr h1 h2 h3 h4 => by subst hr; exact ⟨A, c', rfl, h1, h2, h3, h4⟩⟩
  generalize ObjO w (changeO c) = OUT at *
  unfold ObjO at HMK
  generalize changeO c = r at *
  generalize c.cells.toArray = MC at *
  obtain ⟨k1, d1, e1⟩ := r
  dsimp only at HMK
  clear HW hk hF
  go_enter Tryd.func49, Tryd.ntmps49
  go_upto_region 1 with fail
  rw [LIT.out]
  clear LIT
  go_wp2_with (first
    | ((with_reducible refine at_load 3 ?_); go_must (refine load_all 28 (.tmp 0) rfl rfl rfl KM.out Tryd.underlying28 rfl HIM.out ?_)))
  refine HMK.out.mono ?_
  rintro e w1 ⟨A1, c1, rfl, hr, hn, hc, hb⟩
  have R1 := bx hr; have N1 := bx hn; have C1 := bx hc
  replace K0 := bx (((hb).block _ (blk_lt K0.out)).trans K0.out)
  replace D0 := bx (D0.out.trans ((hb).mono D0.out.size))
  clear hr hn hc hb HMK
  go_wp2_with (first
    | ((with_reducible refine at_store (.tmp 1) (.tmp 5) ?_); go_must (refine store_all (cs := objC k1 (.slice A1 d1.length c1)) 35 (.tmp 1) (.tmp 5) rfl rfl rfl rfl K0.out (obj_is _ _ _ _) rfl (obj_one _ _ _ _) ?_; intro w9 hu9; have B9 := bx (D0.out.trans (hu9.below (Nat.le_refl _))); have R9 := bx hu9.same; have RD9 := bx (R1.out.upd_obj K0.out hu9); clear hu9)))
  refine bodyPost_ret (results_ct (cs := objC k1 (.slice A1 d1.length c1)) rfl _ _ w.heap.size 35 _ _ rfl rfl R9.out Tryd.underlying35 rfl (obj_is _ _ _ _)) rfl ?_
  exact RO.out (k1, d1, e1) A1 c1 _ rfl RD9.out N1.out C1.out B9.out
set_option maxRecDepth 100000 in
set_option maxHeartbeats 1000000 in
theorem treeclo_any (b : Nat) (A : Option Addr) (n cap : Nat) (L : Nat → Ent) (w : World) (hM : MaxAt w) (hk : w.heap[b]? = some (.cells #[.slice A n cap] 22 (0, 0))) (hr : RowAt w A n 34 (fun j => (L j).cells)) (hid : ∀ j, j < n → (L j).id.length = 32) (hnm : ∀ j, j < n → (L j).name.size ≤ 4294967280) :
    Calls Tryd.prog 50 #[.pointer (some ⟨b, 0, none⟩)] w (ObjO w (treeO L n)) := by
  obtain ⟨w0, hw0⟩ : ∃ w0, w0 = w.alloc (.cells (objC 0 (.slice none 0 0)) 35) := ⟨_, rfl⟩
  have K0 : Bx (w0.heap[w.heap.size]? = some (.cells (objC 0 (.slice none 0 0)) 35 (0, 0))) := ⟨by rw [hw0]; exact blk_new w _⟩
  have D0 : Bx (Below w.heap.size w w0) := ⟨by rw [hw0]; exact ((Below.refl _ _).alloc (Nat.le_refl _) _)⟩
  have hsz0 : w0.heap.size = w.heap.size + 1 := by rw [hw0]; simp
  have SZ0 := bx hsz0; clear hsz0
  have HW := bx hw0; clear hw0
  have LIT : Bx (w.alloc (.cells #[.int .i64 0, .slice none 0 0] 35) = w0) := ⟨HW.out.symm⟩
  have zb : w0.cell? ⟨b, 0, none⟩ = some (.slice A n cap) := blk_cell ((D0.out.block _ (blk_lt hk)).trans hk) rfl
  have HMK : Bx (Calls Tryd.prog 7 #[.slice A n cap] w0 (ObjO w0 (treeO L n))) := ⟨oftree_any A n cap L w0 (hM.below D0.out) (hr.below D0.out) hid hnm⟩
  have RO : Bx (∀ (r : Int × List Int × Int) A c' w', treeO L n = r → RdB w' A r.2.1.length r.2.1 → (A = none → c' = 0) → r.2.1.length ≤ c' → Below w.heap.size w w' → ObjO w (treeO L n) (.returned (.tuple #[.agg (objC r.1 (.slice A r.2.1.length c')), .int .i64 r.2.2])) w') := ⟨fun r A c' w' hr h1 h2 h3 h4 => by subst hr; exact ⟨A, c', rfl, h1, h2, h3, h4⟩⟩
  generalize ObjO w (treeO L n) = OUT at *
  unfold ObjO at HMK
  generalize treeO L n = r at *
  obtain ⟨k1, d1, e1⟩ := r
  dsimp only at HMK
  clear HW hk hr hid hnm hM
  go_enter Tryd.func50, Tryd.ntmps50
  go_upto_region 1 with fail
  rw [LIT.out]
  clear LIT
  go_wp2_with fail
  refine HMK.out.mono ?_
  rintro e w1 ⟨A1, c1, rfl, hr, hn, hc, hb⟩
  have R1 := bx hr; have N1 := bx hn; have C1 := bx hc
  replace K0 := bx (((hb).block _ (blk_lt K0.out)).trans K0.out)
  replace D0 := bx (D0.out.trans ((hb).mono D0.out.size))
  clear hr hn hc hb HMK
  go_wp2_with (first
    | ((with_reducible refine at_store (.tmp 1) (.tmp 5) ?_); go_must (refine store_all (cs := objC k1 (.slice A1 d1.length c1)) 35 (.tmp 1) (.tmp 5) rfl rfl rfl rfl K0.out (obj_is _ _ _ _) rfl (obj_one _ _ _ _) ?_; intro w9 hu9; have B9 := bx (D0.out.trans (hu9.below (Nat.le_refl _))); have R9 := bx hu9.same; have RD9 := bx (R1.out.upd_obj K0.out hu9); clear hu9)))
  refine bodyPost_ret (results_ct (cs := objC k1 (.slice A1 d1.length c1)) rfl _ _ w.heap.size 35 _ _ rfl rfl R9.out Tryd.underlying35 rfl (obj_is _ _ _ _)) rfl ?_
  exact RO.out (k1, d1, e1) A1 c1 _ rfl RD9.out N1.out C1.out B9.out
end Go.Proofs.YtoompcgdhokdlaaDoor
