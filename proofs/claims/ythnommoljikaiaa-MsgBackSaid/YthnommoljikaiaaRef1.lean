/- The document's sum (coffretref02) in plain Lean: the same words in other forms. -/
import Derived.Test.YthnommoljikaiaaSha6
set_option linter.unusedSimpArgs false
set_option linter.unusedVariables false
namespace Go.Proofs.Ythnommoljikaiaa
open Go.RowKit

theorem u32_wrap_toNat (b : BitVec 32) : IntKind.u32.wrap ((b.toNat : Nat) : Int) = b.toNat := by
  have h := b.isLt
  simp only [IntKind.wrap, IntKind.bits, IntKind.signed]
  simp
  omega
theorem bits_and32 (x y : Int) : bits .and .u32 x y = ((BitVec.ofInt 32 x &&& BitVec.ofInt 32 y).toNat : Int) := u32_wrap_toNat _
theorem bits_or32 (x y : Int) : bits .or .u32 x y = ((BitVec.ofInt 32 x ||| BitVec.ofInt 32 y).toNat : Int) := u32_wrap_toNat _
theorem bits_xor32 (x y : Int) : bits .xor .u32 x y = ((BitVec.ofInt 32 x ^^^ BitVec.ofInt 32 y).toNat : Int) := u32_wrap_toNat _
theorem ofInt_back (b : BitVec 32) : BitVec.ofInt 32 ((b.toNat : Nat) : Int) = b := by rw [BitVec.ofInt_natCast, BitVec.ofNat_toNat, BitVec.setWidth_eq]
theorem bits_or_comm (x y : Int) : bits .or .u32 x y = bits .or .u32 y x := by rw [bits_or32, bits_or32, BitVec.or_comm]
theorem ch_forms (e f g : Int) : bits .xor .u32 (bits .and .u32 e f) (bits .and .u32 (bits .xor .u32 e 4294967295) g) = bits .xor .u32 g (bits .and .u32 e (bits .xor .u32 f g)) := by
  simp only [bits_and32, bits_xor32, ofInt_back]
  congr 2
  have h : BitVec.ofInt 32 4294967295 = BitVec.allOnes 32 := by decide
  rw [h]
  generalize BitVec.ofInt 32 e = E
  generalize BitVec.ofInt 32 f = F
  generalize BitVec.ofInt 32 g = G
  apply BitVec.eq_of_getLsbD_eq
  intro i hi
  simp only [BitVec.getLsbD_xor, BitVec.getLsbD_and, BitVec.getLsbD_allOnes, hi, decide_true]
  cases E.getLsbD i <;> cases F.getLsbD i <;> cases G.getLsbD i <;> rfl
theorem maj_forms (a b c : Int) : bits .xor .u32 (bits .xor .u32 (bits .and .u32 a b) (bits .and .u32 a c)) (bits .and .u32 b c) = bits .or .u32 (bits .and .u32 a b) (bits .and .u32 c (bits .or .u32 a b)) := by
  simp only [bits_and32, bits_xor32, bits_or32, ofInt_back]
  congr 2
  generalize BitVec.ofInt 32 a = A
  generalize BitVec.ofInt 32 b = B
  generalize BitVec.ofInt 32 c = C
  apply BitVec.eq_of_getLsbD_eq
  intro i hi
  simp only [BitVec.getLsbD_xor, BitVec.getLsbD_and, BitVec.getLsbD_or]
  cases A.getLsbD i <;> cases B.getLsbD i <;> cases C.getLsbD i <;> rfl
theorem orByte32 (x c : Int) (hc : 0 ≤ c ∧ c < 256) : bits .or .u32 (x * 256 % 4294967296) c = x * 256 % 4294967296 + c := by
  obtain ⟨n, hn⟩ : ∃ n : Nat, x * 256 % 4294967296 = ((n * 256 : Nat) : Int) ∧ n < 16777216 := ⟨(x % 16777216).toNat, by omega, by omega⟩
  obtain ⟨d, rfl⟩ : ∃ d : Nat, c = d := ⟨c.toNat, by omega⟩
  rw [hn.1, bits_or32, BitVec.ofInt_natCast, BitVec.ofInt_natCast, BitVec.toNat_or, BitVec.toNat_ofNat, BitVec.toNat_ofNat, Nat.mod_eq_of_lt (by omega), Nat.mod_eq_of_lt (by omega)]
  have := Nat.shiftLeft_add_eq_or_of_lt (b := d) (i := 8) (by omega) n
  rw [Nat.shiftLeft_eq] at this
  rw [← this]
  omega
/-- A word of a block: by sums. -/
def wordR (bs : List Int) (t : Nat) : Int := (bs.getD (4 * t) 0 * 16777216 + bs.getD (4 * t + 1) 0 * 65536 + bs.getD (4 * t + 2) 0 * 256 + bs.getD (4 * t + 3) 0) % 4294967296
theorem word_forms (bs : List Int) (t : Nat) (h : IsB bs) : wordR bs t = word bs t := by
  have h0 := h (4 * t + 0); have h1 := h (4 * t + 1); have h2 := h (4 * t + 2); have h3 := h (4 * t + 3)
  show _ = bits .or .u32 (bits .or .u32 (bits .or .u32 (bits .or .u32 (0 * 256 % 4294967296) (bs.getD (4 * t + 0) 0) * 256 % 4294967296) (bs.getD (4 * t + 1) 0) * 256 % 4294967296) (bs.getD (4 * t + 2) 0) * 256 % 4294967296) (bs.getD (4 * t + 3) 0)
  rw [orByte32 _ _ h0, orByte32 _ _ h1, orByte32 _ _ h2, orByte32 _ _ h3, wordR]
  simp only [Nat.add_zero]
  omega
def nextR (bs : List Int) (w : List Int) (t : Nat) : Int :=
  if t < 16 then wordR bs t else (high (w[t - 2]?.getD 0) + w[t - 7]?.getD 0 + low (w[t - 15]?.getD 0) + w[t - 16]?.getD 0) % 4294967296
def schedR (bs : List Int) : Nat → List Int
  | 0 => List.replicate 64 0
  | t + 1 => (schedR bs t).set t (nextR bs (schedR bs t) t)
theorem schedR_eq (bs : List Int) (h : IsB bs) : ∀ t, schedR bs t = sched bs t
  | 0 => rfl
  | t + 1 => by
    rw [schedR, sched, schedR_eq bs h t, nextR, nextw]
    split
    · rw [word_forms _ _ h]
    · congr 2
      omega
def rndR (v : List Int) (k w : Int) : List Int :=
  let e := v[4]?.getD 0
  let a := v[0]?.getD 0
  let ch := bits .xor .u32 (bits .and .u32 e (v[5]?.getD 0)) (bits .and .u32 (bits .xor .u32 e 4294967295) (v[6]?.getD 0))
  let maj := bits .xor .u32 (bits .xor .u32 (bits .and .u32 a (v[1]?.getD 0)) (bits .and .u32 a (v[2]?.getD 0))) (bits .and .u32 (v[1]?.getD 0) (v[2]?.getD 0))
  let x := v[7]?.getD 0 + bits .xor .u32 (bits .xor .u32 (rotr e 6) (rotr e 11)) (rotr e 25) + ch + k + w
  let y := bits .xor .u32 (bits .xor .u32 (rotr a 2) (rotr a 13)) (rotr a 22) + maj
  [(x + y) % 4294967296, a, v[1]?.getD 0, v[2]?.getD 0, (v[3]?.getD 0 + x) % 4294967296, e, v[5]?.getD 0, v[6]?.getD 0]
theorem rndR_eq (v : List Int) (k w : Int) : rndR v k w = rnd v k w := by
  unfold rndR rnd
  simp only [ch_forms, maj_forms]
def roundsR (st sc : List Int) : Nat → List Int
  | 0 => st
  | t + 1 => rndR (roundsR st sc t) (ks[t]?.getD 0) (sc[t]?.getD 0)
theorem roundsR_eq (st sc : List Int) : ∀ t, roundsR st sc t = rounds st sc t
  | 0 => rfl
  | t + 1 => by rw [roundsR, rounds, roundsR_eq st sc t, rndR_eq]
theorem schedR_length (bs : List Int) (t : Nat) : (schedR bs t).length = 64 := by
  induction t with
  | zero => rw [schedR, List.length_replicate]
  | succ t ih => rw [schedR, List.length_set, ih]
theorem roundsR_length (st sc : List Int) (h : st.length = 8) (t : Nat) : (roundsR st sc t).length = 8 := by
  cases t with
  | zero => exact h
  | succ t => rfl
def blockR (st bs : List Int) : List Int := addAll st (roundsR st (schedR bs 64) 64) 8
theorem blockR_eq (st bs : List Int) (h : IsB bs) : blockR st bs = blockOf st bs := by rw [blockR, blockOf, schedR_eq bs h, roundsR_eq]
/-- A text, and what stands behind it. -/
def padR (bs : List Int) : List Int := bs ++ [128] ++ List.replicate (zerosOf bs.length) 0 ++ lenBytes (bs.length * 8) 8
def foldR (st : List Int) (bs : List Int) : Nat → List Int
  | 0 => st
  | k + 1 => blockR (foldR st bs k) ((bs.drop (64 * k)).take 64)
def sumR (bs : List Int) : List Int := outBytes (foldR iv (padR bs) ((padR bs).length / 64)) 32
theorem padR_length (bs : List Int) : ∃ q, (padR bs).length = 64 * q := by
  obtain ⟨q, r, h1, h2, h3⟩ := zeros_cases bs.length
  have e : (padR bs).length = bs.length + 1 + zerosOf bs.length + 8 := by simp [padR, lenBytes]; omega
  rw [e]
  rcases h3 with ⟨a, b⟩ | ⟨a, b⟩
  · exact ⟨q + 1, by omega⟩
  · exact ⟨q + 2, by omega⟩
theorem padR_isB (bs : List Int) (h : IsB bs) : IsB (padR bs) := isB_append (isB_append (isB_append h (isB_one ⟨by decide, by decide⟩)) (isB_zeros _)) (lenBytes_isB _ _)
/-- 64 bytes are absorbed at once where none are held. -/
theorem absorbs_block (h : Hs) (cs : List Int) (hc : cs.length = 64) (hn : h.n % 64 = 0) (hr : h.rest.length = 64) : (absorbs h cs).st = blockOf h.st cs ∧ (absorbs h cs).n = h.n + 64 ∧ (absorbs h cs).rest.length = 64 := by
  have e := absorb_chunk cs h (by omega) (by omega) hr
  refine ⟨?_, by rw [absorbs_n, hc], absorbs_rest cs h hr⟩
  rw [e]
  have e2 : over h.rest (h.n % 64) cs = cs := by
    rw [hn, over, hc]
    simp [List.drop_of_length_le (show h.rest.length ≤ 64 by omega)]
  dsimp only
  rw [if_pos (by omega), e2]
theorem foldR_absorbs (bs : List Int) (hB : IsB bs) : ∀ k, 64 * k ≤ bs.length → (absorbs hs0 (bs.take (64 * k))).st = foldR iv bs k ∧ (absorbs hs0 (bs.take (64 * k))).n % 64 = 0 ∧ (absorbs hs0 (bs.take (64 * k))).rest.length = 64
  | 0, _ => ⟨by rw [Nat.mul_zero, List.take_zero]; rfl, rfl, rfl⟩
  | k + 1, hk => by
    obtain ⟨h1, h2, h3⟩ := foldR_absorbs bs hB k (by omega)
    have e : bs.take (64 * (k + 1)) = bs.take (64 * k) ++ (bs.drop (64 * k)).take 64 := by rw [show 64 * (k + 1) = 64 * k + 64 by omega, List.take_add]
    have hl : ((bs.drop (64 * k)).take 64).length = 64 := by rw [List.length_take, List.length_drop]; omega
    obtain ⟨g1, g2, g3⟩ := absorbs_block _ _ hl h2 h3
    rw [e, absorbs_append]
    refine ⟨?_, by rw [g2]; omega, g3⟩
    rw [g1, h1, foldR, blockR_eq _ _ (isB_take (isB_drop hB _) _)]
theorem sumR_eq (bs : List Int) (h : IsB bs) : sumR bs = shaOf bs := by
  obtain ⟨q, hq⟩ := padR_length bs
  have e := (foldR_absorbs (padR bs) (padR_isB bs h) q (by omega)).1
  rw [List.take_of_length_le (by omega)] at e
  rw [sumR, hq, Nat.mul_div_cancel_left q (by decide), ← e, shaOf, digest]
  congr 2
  have hn : (absorbs hs0 bs).n = bs.length := by rw [absorbs_n]; show 0 + bs.length = _; omega
  rw [h3, h2, h1, hn, padR, absorbs_append, absorbs_append, absorbs_append]
  rfl
theorem sumR_length (bs : List Int) : (sumR bs).length = 32 := outBytes_length _ _
end Go.Proofs.Ythnommoljikaiaa
