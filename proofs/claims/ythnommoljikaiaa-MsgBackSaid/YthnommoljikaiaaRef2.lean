/- The document's sum (coffretref02): the walks over right, k and block. -/
import Derived.Test.YthnommoljikaiaaRef1
import Derived.Test.YthnommoljikaiaaReg2
import Derived.Test.YthnommoljikaiaaBuf1
set_option linter.unusedSimpArgs false
set_option linter.unusedVariables false
namespace Go.Proofs.Ythnommoljikaiaa
open Go.RowKit

theorem right_any (x : Int) (n : Nat) (h0 : 0 < n) (h1 : n < 32) (w : World) :
    Calls Try.prog 120 #[.int .u32 x, .int .u64 n] w fun e w' => e = .returned (.int .u32 (rotr x n)) ∧ w = w' := by
  have e2 : IntKind.u64.wrap (32 - (n : Int)) = ((32 - n : Nat) : Int) := by unfold IntKind.wrap; simp [IntKind.bits, IntKind.signed]; omega
  go_enter Try.func120, Try.ntmps120
  go_wp2
  go_ret
  rw [rotr, bits_or_comm]
  exact ⟨rfl, rfl⟩
set_option maxRecDepth 100000 in
set_option maxHeartbeats 1000000 in
theorem kR_any (w : World) :
    Calls Try.prog 121 #[] w fun e w' => e = .returned (.slice (some ⟨w.heap.size, 0, none⟩) 64 64) ∧ w'.heap[w.heap.size]? = some (.cells (ints .u32 ks) 209 (0, 0)) ∧ Below w.heap.size w w' := by
  go_enter Try.func121, Try.ntmps121
  go_wp2_with fail
  go_ret
  exact ⟨rfl, heap_alloc_new _ _, (Below.refl _ _).alloc (Nat.le_refl _) _⟩
/-- A string's bytes. -/
def bytesOf (s : ByteArray) : List Int := s.data.toList.map fun b => (b.toNat : Int)
theorem bytesOf_length (s : ByteArray) : (bytesOf s).length = s.size := by simp [bytesOf]
theorem bytesOf_get (s : ByteArray) (j : Nat) (h : j < s.size) : (bytesOf s).getD j 0 = (s[j].toNat : Int) := by
  have h' : j < s.data.size := h
  rw [bytesOf, List.getD_eq_getElem?_getD, List.getElem?_map, Array.getElem?_toList, Array.getElem?_eq_getElem h']
  rfl
theorem bytesOf_isB (s : ByteArray) : IsB (bytesOf s) := fun j => by
  by_cases h : j < s.size
  · rw [bytesOf_get s j h]
    have := s[j].toNat_lt
    omega
  · rw [List.getD_eq_getElem?_getD, List.getElem?_eq_none (by rw [bytesOf_length]; omega)]
    decide
theorem wordR_str (s : ByteArray) (t : Nat) (h0 : 4 * t < s.size) (h1 : 4 * t + 1 < s.size) (h2 : 4 * t + 2 < s.size) (h3 : 4 * t + 3 < s.size) :
    ((s[4 * t].toNat : Int) % 4294967296 * 16777216 + (s[4 * t + 1].toNat : Int) % 4294967296 * 65536 + (s[4 * t + 2].toNat : Int) % 4294967296 * 256 + (s[4 * t + 3].toNat : Int)) % 4294967296 = wordR (bytesOf s) t := by
  rw [wordR, bytesOf_get s _ h0, bytesOf_get s _ h1, bytesOf_get s _ h2, bytesOf_get s _ h3]
  omega
theorem schedR_next (bs : List Int) (m : Nat) : schedR bs (m + 16 + 1) = (schedR bs (m + 16)).set (m + 16) ((bits .xor .u32 (bits .xor .u32 (rotr ((schedR bs (m + 16))[m + 14]?.getD 0) 17) (rotr ((schedR bs (m + 16))[m + 14]?.getD 0) 19)) ((schedR bs (m + 16))[m + 14]?.getD 0 / 1024) +
    (schedR bs (m + 16))[m + 9]?.getD 0 +
    bits .xor .u32 (bits .xor .u32 (rotr ((schedR bs (m + 16))[m + 1]?.getD 0) 7) (rotr ((schedR bs (m + 16))[m + 1]?.getD 0) 18)) ((schedR bs (m + 16))[m + 1]?.getD 0 / 8) + (schedR bs (m + 16))[m]?.getD 0) % 4294967296) := by
  show (schedR bs (m + 16)).set (m + 16) (nextR bs (schedR bs (m + 16)) (m + 16)) = _
  generalize schedR bs (m + 16) = S
  unfold nextR low high
  rw [if_neg (by omega)]
  have e1 : m + 16 - 15 = m + 1 := by omega
  have e2 : m + 16 - 7 = m + 9 := by omega
  have e3 : m + 16 - 2 = m + 14 := by omega
  have e4 : m + 16 - 16 = m := by omega
  simp only [e1, e2, e3, e4]
theorem getD_q (l : List Int) (j : Nat) : l.getD j 0 = l[j]?.getD 0 := List.getD_eq_getElem?_getD
theorem built8 (x0 x1 x2 x3 x4 x5 x6 x7 : Int) : Try.prog.built 210 [(0, .int .u32 x0), (1, .int .u32 x1), (2, .int .u32 x2), (3, .int .u32 x3), (4, .int .u32 x4), (5, .int .u32 x5), (6, .int .u32 x6), (7, .int .u32 x7)] = some (ints .u32 [x0, x1, x2, x3, x4, x5, x6, x7]) := by kernel_rfl
theorem cells8 {x0 y0 x4 y4 a0 a1 a2 a4 a5 a6 : Int} {T : TypeId} (h0 : x0 = y0) (h4 : x4 = y4) : some (Obj.cells (ints .u32 [x0, a0, a1, a2, x4, a4, a5, a6]).toList.toArray T (0, 0)) = some (Obj.cells (ints .u32 [y0, a0, a1, a2, y4, a4, a5, a6]) T (0, 0)) := by subst h0 h4; rfl
/-- The sequence that begins with a region. -/
def seqFrom (n : Nat) : Code → Option Code
  | .seq (.region m x y) b => if m = n then some (.seq (.region m x y) b) else seqFrom n b
  | .seq a b => match seqFrom n a with
    | some c => some c
    | none => seqFrom n b
  | .loop c => seqFrom n c
  | .block _ c => seqFrom n c
  | .scope c => seqFrom n c
  | .cond _ a b => match seqFrom n a with
    | some c => some c
    | none => seqFrom n b
  | _ => none
noncomputable def blockRest : Code := ((Try.f111.body.bind (seqFrom 10)).getD .skip)
set_option maxRecDepth 1000000 in
set_option maxHeartbeats 8000000 in
theorem block_rest (c0 c1 c2 c3 c4 c5 c6 c7 : Int) (SC : List Int) (w wr : World) (B : Nat) (hB : B = w.heap.size) (hsl : SC.length = 64) (hW : wr.heap[B + 1 + 1]? = some (.cells (ints .u32 SC) 237 (0, 0))) (hH : wr.heap[B]? = some (.cells (ints .u32 [c0, c1, c2, c3, c4, c5, c6, c7]) 210 (0, 0))) (hO : wr.heap[B + 1]? = some (.cells #[.int .u32 0, .int .u32 0, .int .u32 0, .int .u32 0, .int .u32 0, .int .u32 0, .int .u32 0, .int .u32 0] 210 (0, 0))) (hbel : Below B w wr)
    (s0 s1 s3 s6 s7 s8 s9 s10 s11 s12 s13 s14 s15 s16 s17 s18 s19 s20 s21 s22 s23 s24 s25 s26 s27 s28 s29 s30 s31 s32 s33 s34 s35 s36 s37 s38 s39 s40 s41 s42 s43 s44 s45 s46 s47 s48 s49 s50 s51 s52 s53 s54 s55 s56 s57 s58 s59 s60 s61 s62 s63 s64 s65 s66 s67 s68 s69 s70 s71 s72 s73 s74 s75 s76 s77 s78 s79 s80 s81 s82 s83 s84 s85 s86 s87 s88 s89 s90 s91 s92 s93 s94 s95 s96 s97 s98 s99 s100 s101 s102 s103 s104 s105 s106 s107 s108 s109 s110 s111 s112 s113 s114 s115 s116 s117 s118 s119 s120 s121 s122 s123 s124 s125 s126 s127 s128 s129 s130 s131 s132 s133 s134 s135 s136 s137 s138 s139 s140 s141 s142 s143 s144 s145 s146 s147 s148 s149 s150 s151 s152 s153 s154 s155 s156 s157 s158 s159 s160 s161 s162 s163 s164 s165 s166 s167 s168 s169 s170 s171 s172 s173 s174 s175 s176 s177 s178 s179 s180 s181 s182 s183 s184 s185 s186 s187 s188 s189 s190 s191 s192 s193 : Value) :
    blockRest.wp Try.prog (bodyPost Try.prog Try.f111 fun e w' => e = .returned (.agg (ints .u32 (addAll [c0, c1, c2, c3, c4, c5, c6, c7] (roundsR [c0, c1, c2, c3, c4, c5, c6, c7] SC 64) 8))) ∧ Below w.heap.size w w') ⟨#[s0, s1, .pointer (some ⟨B, 0, none⟩), s3, .pointer (some ⟨B + 1, 0, none⟩), .pointer (some ⟨B + 1 + 1, 0, none⟩), s6, s7, s8, s9, s10, s11, s12, s13, s14, s15, s16, s17, s18, s19, s20, s21, s22, s23, s24, s25, s26, s27, s28, s29, s30, s31, s32, s33, s34, s35, s36, s37, s38, s39, s40, s41, s42, s43, s44, s45, s46, s47, s48, s49, s50, s51, s52, s53, s54, s55, s56, s57, s58, s59, s60, s61, s62, s63, s64, s65, s66, s67, s68, s69, s70, s71, s72, s73, s74, s75, s76, s77, s78, s79, s80, s81, s82, s83, s84, s85, s86, s87, s88, s89, s90, s91, s92, s93, s94, s95, s96, s97, s98, s99, s100, s101, s102, s103, s104, s105, s106, s107, s108, s109, s110, s111, s112, s113, s114, s115, s116, s117, s118, s119, s120, s121, s122, s123, s124, s125, s126, s127, s128, s129, s130, s131, s132, s133, s134, s135, s136, s137, s138, s139, s140, s141, s142, s143, s144, s145, s146, s147, s148, s149, s150, s151, s152, s153, s154, s155, s156, s157, s158, s159, s160, s161, s162, s163, s164, s165, s166, s167, s168, s169, s170, s171, s172, s173, s174, s175, s176, s177, s178, s179, s180, s181, s182, s183, s184, s185, s186, s187, s188, s189, s190, s191, s192, s193], []⟩ wr := by
  conv => arg 2; whnf
  have HB := bx hB; have HSL := bx hsl; have HW := bx hW; have HH := bx hH; have HO := bx hO; have BR := bx hbel
  clear hB hsl hW hH hO hbel
  go_wp2_with fail
  refine (kR_any wr).mono ?_
  rintro e w1 ⟨rfl, hk1, hb1⟩
  have K1 := bx hk1; have W1 := bx ((hb1.block _ (blk_lt HW.out)).trans HW.out); have H1 := bx ((hb1.block _ (blk_lt HH.out)).trans HH.out); have O1 := bx ((hb1.block _ (blk_lt HO.out)).trans HO.out); have B1 := bx (BR.out.trans (hb1.mono (by have := BR.out.size; have := HB.out; omega)))
  have Z1 := bx (blk_lt HW.out); have Z2 := bx (blk_lt hk1)
  clear hk1 hb1
  have I8 : Bx ((Try.prog.info? 210).map (·.size) = some 8) := ⟨by kernel_rfl⟩
  go_wp2_with (first
    | ((with_reducible refine at_load 94 ?_); go_must (refine wpList_load_agg rfl 210 (.tmp 2) rfl B 0 rfl 210 _ 8 _ H1.out Try.underlying210 rfl I8.out (Nat.le_refl 8) (ints .u32 [c0, c1, c2, c3, c4, c5, c6, c7]) rfl ?_))
    | ((with_reducible refine at_store (.tmp 10) (.tmp 94) ?_); go_must (refine wpList_store_agg (cells := ints .u32 [c0, c1, c2, c3, c4, c5, c6, c7]) rfl 210 (.tmp 10) (.tmp 94) rfl w1.heap.size 0 rfl rfl 210 #[.int .u32 0, .int .u32 0, .int .u32 0, .int .u32 0, .int .u32 0, .int .u32 0, .int .u32 0, .int .u32 0] (blk_new w1 _) I8.out (Nat.le_refl 8) (ints_oneCell _ _) _ (putRow_all _ _ rfl) ?_; intro w2 hu2)))
  have b2 := ((Below.refl w1.heap.size w1).alloc (Nat.le_refl _) (.cells #[.int .u32 0, .int .u32 0, .int .u32 0, .int .u32 0, .int .u32 0, .int .u32 0, .int .u32 0, .int .u32 0] 210)).trans (hu2.below (Nat.le_refl _))
  have K2 := bx ((b2.block _ (blk_lt K1.out)).trans K1.out); have W2 := bx ((b2.block _ (blk_lt W1.out)).trans W1.out); have H2 := bx ((b2.block _ (blk_lt H1.out)).trans H1.out); have O2 := bx ((b2.block _ (blk_lt O1.out)).trans O1.out); have B2 := bx (B1.out.trans (b2.mono (by have := B1.out.size; have := HB.out; omega))); have V2 := bx hu2.same
  clear hu2 b2
  obtain ⟨K, hK⟩ : ∃ K, K = wr.heap.size := ⟨_, rfl⟩
  obtain ⟨D, hD⟩ : ∃ D, D = w1.heap.size := ⟨_, rfl⟩
  rw [← hK] at K2 Z1 Z2 ⊢
  rw [← hD] at V2 Z2 ⊢
  clear hK hD
  have Z1' := Z1.out; have Z2' := Z2.out
  go_loopw [11] (fun i wr => ∃ t : Nat, t ≤ 64 ∧ i = .int .i64 t ∧ wr.heap[D]? = some (.cells (ints .u32 (roundsR [c0, c1, c2, c3, c4, c5, c6, c7] SC t)) 210 (0, 0)) ∧ wr.heap[B + 1 + 1]? = some (.cells (ints .u32 SC) 237 (0, 0)) ∧ wr.heap[K]? = some (.cells (ints .u32 ks) 209 (0, 0)) ∧ wr.heap[B]? = some (.cells (ints .u32 [c0, c1, c2, c3, c4, c5, c6, c7]) 210 (0, 0)) ∧ wr.heap[B + 1]? = some (.cells #[.int .u32 0, .int .u32 0, .int .u32 0, .int .u32 0, .int .u32 0, .int .u32 0, .int .u32 0, .int .u32 0] 210 (0, 0)) ∧ Below B w wr)
    (fun i _ => 64 - (intOf i).toNat)
  case atStart => exact ⟨0, by omega, rfl, V2.out, W2.out, K2.out, H2.out, O2.out, B2.out⟩
  case round =>
    clear HW HH HO BR K1 W1 H1 O1 B1 K2 W2 H2 O2 B2 V2
    obtain ⟨t, ht, rfl, hV, hW, hK, hH, hO, hbel⟩ := hrel
    have HW := bx hW; have HH := bx hH; have HO := bx hO; have HK := bx hK; have HV := bx hV; have BR := bx hbel
    clear hW hH hO hbel hK hV
    have hVl := roundsR_length [c0, c1, c2, c3, c4, c5, c6, c7] SC rfl t
    by_cases hlt : t < 64
    · have hlt' : (t : Int) < 64 := by omega
      have x1 := blk_int HW.out t (by rw [HSL.out]; omega)
      have x2 := blk_int HK.out t (by exact hlt)
      rw [getD_q] at x1 x2
      have HN : Bx (roundsR [c0, c1, c2, c3, c4, c5, c6, c7] SC (t + 1) = rndR (roundsR [c0, c1, c2, c3, c4, c5, c6, c7] SC t) (ks[t]?.getD 0) (SC[t]?.getD 0)) := ⟨rfl⟩
      generalize roundsR [c0, c1, c2, c3, c4, c5, c6, c7] SC t = V at *
      obtain ⟨a0, a1, a2, a3, a4, a5, a6, a7, rfl⟩ := eight V hVl
      generalize ks[t]?.getD 0 = kk at *
      generalize SC[t]?.getD 0 = sc at *
      have v0 : wr.cell? ⟨D, 0, none⟩ = some (.int .u32 a0) := blk_int HV.out 0 (by simp)
      have v1 : wr.cell? ⟨D, 1, none⟩ = some (.int .u32 a1) := blk_int HV.out 1 (by simp)
      have v2 : wr.cell? ⟨D, 2, none⟩ = some (.int .u32 a2) := blk_int HV.out 2 (by simp)
      have v3 : wr.cell? ⟨D, 3, none⟩ = some (.int .u32 a3) := blk_int HV.out 3 (by simp)
      have v4 : wr.cell? ⟨D, 4, none⟩ = some (.int .u32 a4) := blk_int HV.out 4 (by simp)
      have v5 : wr.cell? ⟨D, 5, none⟩ = some (.int .u32 a5) := blk_int HV.out 5 (by simp)
      have v6 : wr.cell? ⟨D, 6, none⟩ = some (.int .u32 a6) := blk_int HV.out 6 (by simp)
      have v7 : wr.cell? ⟨D, 7, none⟩ = some (.int .u32 a7) := blk_int HV.out 7 (by simp)
      clear hVl
      go_wp2_with fail
      refine region_quietC (fun w' => w' = wr.drew) (by kernel_rfl) (by kernel_rfl) rfl ?_
      repeat (first
        | (refine quiet_take (v := ?_) _ rfl (by kernel_rfl) ?_ ?_; rotate_left 1; (focus (first | (intro w' hw'; clear hw'; unfold Oper.quietAt; go_simp; done) | (intro w' hw'; clear hw'; unfold Oper.quietAt; go_simp; with_reducible rfl) | (intro w' hw'; subst hw'; unfold Oper.quietAt; go_simp; first | done | with_reducible rfl | (go_at_call 120; refine (right_any _ _ (by decide) (by decide) _).mono ?_; rintro e w'' ⟨rfl, rfl⟩; refine ⟨?_, rfl⟩; with_reducible rfl)))); try simp only [List.setIfInBounds_toArray, List.set_cons_zero, List.set_cons_succ]))
      refine wpQuiet_nil ?_
      rintro w' rfl
      go_wp2_with (first
        | (go_at_call 120; refine (right_any _ _ (by decide) (by decide) _).mono ?_; rintro e w' ⟨rfl, rfl⟩)
        | ((with_reducible refine at_build 179 ?_); go_must (refine wpList_build2 rfl 210 [(0, .tmp 162), (1, .tmp 164), (2, .tmp 166), (3, .tmp 168), (4, .tmp 172), (5, .tmp 174), (6, .tmp 176), (7, .tmp 178)] rfl _ rfl _ (built8 _ _ _ _ _ _ _ _) ?_))
        | ((with_reducible refine at_store (.tmp 10) (.tmp 179) ?_); go_must (refine wpList_store_agg (cells := ints .u32 _) rfl 210 (.tmp 10) (.tmp 179) rfl D 0 rfl rfl 210 _ HV.out I8.out (Nat.le_refl 8) (ints_oneCell _ _) _ (putRow_all _ _ rfl) ?_; intro w6 hu6)))
      have HN2 : Bx (roundsR [c0, c1, c2, c3, c4, c5, c6, c7] SC (t + 1) = [(a7 + bits .xor .u32 (bits .xor .u32 (rotr a4 6) (rotr a4 11)) (rotr a4 25) + bits .xor .u32 (bits .and .u32 a4 a5) (bits .and .u32 (bits .xor .u32 a4 4294967295) a6) + kk + sc + (bits .xor .u32 (bits .xor .u32 (rotr a0 2) (rotr a0 13)) (rotr a0 22) + bits .xor .u32 (bits .xor .u32 (bits .and .u32 a0 a1) (bits .and .u32 a0 a2)) (bits .and .u32 a1 a2))) % 4294967296, a0, a1, a2, (a3 + (a7 + bits .xor .u32 (bits .xor .u32 (rotr a4 6) (rotr a4 11)) (rotr a4 25) + bits .xor .u32 (bits .and .u32 a4 a5) (bits .and .u32 (bits .xor .u32 a4 4294967295) a6) + kk + sc)) % 4294967296, a4, a5, a6]) := ⟨HN.out⟩
      exact ⟨⟨t + 1, by omega, by go_num, by rw [HN2.out]; exact hu6.same.trans (cells8 (by omega) (by omega)), hu6.blk HW.out (by omega), hu6.blk HK.out (by omega), hu6.blk HH.out (by omega), hu6.blk HO.out (by omega), BR.out.drew.trans (hu6.below (by omega))⟩, by simp [intOf]; omega⟩
    · obtain rfl : t = 64 := by omega
      generalize hVV : roundsR [c0, c1, c2, c3, c4, c5, c6, c7] SC 64 = V at *
      have HVL := bx hVl
      clear hVl
      go_wp2_with fail
      go_loopw [18] (fun i wr => ∃ t : Nat, t ≤ 8 ∧ i = .int .i64 t ∧ wr.heap[B]? = some (.cells (ints .u32 (addAll [c0, c1, c2, c3, c4, c5, c6, c7] V t)) 210 (0, 0)) ∧ wr.heap[D]? = some (.cells (ints .u32 V) 210 (0, 0)) ∧ wr.heap[B + 1]? = some (.cells #[.int .u32 0, .int .u32 0, .int .u32 0, .int .u32 0, .int .u32 0, .int .u32 0, .int .u32 0, .int .u32 0] 210 (0, 0)) ∧ Below B w wr)
        (fun i _ => 8 - (intOf i).toNat)
      case atStart => exact ⟨0, by omega, rfl, HH.out, HV.out, HO.out, BR.out⟩
      case round =>
        clear HW HH HO HK HV BR
        obtain ⟨j, hj, rfl, hH, hV, hO, hbel⟩ := hrel
        have HH := bx hH; have HO := bx hO; have HV := bx hV; have BR := bx hbel
        clear hH hO hbel hV
        have HAL : Bx ((addAll [c0, c1, c2, c3, c4, c5, c6, c7] V j).length = 8) := ⟨by rw [addAll_length]; rfl⟩
        by_cases hlt : j < 8
        · have hlt' : (j : Int) < 8 := by omega
          have x1 := blk_int HH.out j (by rw [HAL.out]; omega)
          have x2 := blk_int HV.out j (by rw [HVL.out]; omega)
          have x3 := blk_frozen j HH.out
          rw [getD_q] at x1 x2
          have HN : Bx (addAll [c0, c1, c2, c3, c4, c5, c6, c7] V (j + 1) = (addAll [c0, c1, c2, c3, c4, c5, c6, c7] V j).set j (((addAll [c0, c1, c2, c3, c4, c5, c6, c7] V j)[j]?.getD 0 + V[j]?.getD 0) % 4294967296)) := ⟨rfl⟩
          go_wp2_with fail
          refine region_tailC (fun w' => w' = wr.drew) 8 (by kernel_rfl) (by kernel_rfl) rfl ?_
          simp only [List.take_succ_cons, List.take_zero, List.drop_succ_cons, List.drop_zero]
          repeat (first
            | (refine quiet_take (v := ?_) _ rfl (by kernel_rfl) ?_ ?_; rotate_left 1; (focus (first | (intro w' hw'; clear hw'; unfold Oper.quietAt; go_simp; done) | (intro w' hw'; clear hw'; unfold Oper.quietAt; go_simp; with_reducible rfl) | (intro w' hw'; subst hw'; unfold Oper.quietAt; go_simp; first | done | with_reducible rfl))); try simp only [List.setIfInBounds_toArray, List.set_cons_zero, List.set_cons_succ]))
          refine wpQuiet_nil ?_
          rintro w' rfl
          go_wp2_with fail
          exact ⟨⟨j + 1, by omega, by go_num, by rw [HN.out]; exact blk_set HH.out j _, blk_other HV.out (by show D ≠ B; omega), blk_other HO.out (by show B + 1 ≠ B; omega), (BR.out.setCell (by show B ≤ B; omega) _).drew⟩, by simp [intOf]; omega⟩
        · obtain rfl : j = 8 := by omega
          go_wp2_with (first
            | ((with_reducible refine at_load 193 ?_); go_must (refine wpList_load_agg rfl 210 (.tmp 2) rfl B 0 rfl 210 _ 8 _ HH.out Try.underlying210 rfl I8.out (by rw [ints_size, HAL.out]; decide) (ints .u32 (addAll [c0, c1, c2, c3, c4, c5, c6, c7] V 8)) (ints_extract_all .u32 _ 8 HAL.out) ?_))
            | ((with_reducible refine at_store (.tmp 4) (.tmp 193) ?_); go_must (refine wpList_store_agg (cells := ints .u32 (addAll [c0, c1, c2, c3, c4, c5, c6, c7] V 8)) rfl 210 (.tmp 4) (.tmp 193) rfl (B + 1) 0 rfl rfl 210 #[.int .u32 0, .int .u32 0, .int .u32 0, .int .u32 0, .int .u32 0, .int .u32 0, .int .u32 0, .int .u32 0] HO.out (by rw [ints_size, HAL.out]; exact I8.out) (by rw [ints_size, HAL.out]; decide) (ints_oneCell _ _) _ (putRow_all _ _ (by rw [Array.length_toList, ints_size, HAL.out]; rfl)) ?_; intro w6 hu6)))
          refine bodyPost_ret (v := .agg (ints .u32 (addAll [c0, c1, c2, c3, c4, c5, c6, c7] V 8))) (results_agg rfl _ _ (B + 1) 210 _ _ rfl hu6.same Try.underlying210 rfl (by rw [ints_size, HAL.out]; exact I8.out)) rfl ⟨by rw [hVV], ?_⟩
          rw [← HB.out]
          exact BR.out.trans (hu6.below (by omega))
set_option maxRecDepth 100000 in
set_option maxHeartbeats 4000000 in
theorem block_any (st : List Int) (s : ByteArray) (hst : st.length = 8) (hs : s.size = 64) (w : World) :
    Calls Try.prog 111 #[.agg (ints .u32 st), .string s] w fun e w' => e = .returned (.agg (ints .u32 (blockR st (bytesOf s)))) ∧ Below w.heap.size w w' := by
  have HS := bx hs
  obtain ⟨c0, c1, c2, c3, c4, c5, c6, c7, rfl⟩ := eight st hst
  clear hst
  show Calls Try.prog 111 #[.agg (ints .u32 [c0, c1, c2, c3, c4, c5, c6, c7]), .string s] w fun e w' => e = .returned (.agg (ints .u32 (addAll [c0, c1, c2, c3, c4, c5, c6, c7] (roundsR [c0, c1, c2, c3, c4, c5, c6, c7] (schedR (bytesOf s) 64) 64) 8))) ∧ Below w.heap.size w w'
  go_enter Try.func111, Try.ntmps111
  go_wp2_with fail
  obtain ⟨B, hB⟩ : ∃ B, B = w.heap.size := ⟨_, rfl⟩
  rw [← hB]
  have HB := bx hB
  clear hB
  go_loopw [6] (fun i wr => ∃ t : Nat, t ≤ 64 ∧ i = .int .i64 t ∧ wr.heap[B + 1 + 1]? = some (.cells (ints .u32 (schedR (bytesOf s) t)) 237 (0, 0)) ∧ wr.heap[B]? = some (.cells (ints .u32 [c0, c1, c2, c3, c4, c5, c6, c7]) 210 (0, 0)) ∧ wr.heap[B + 1]? = some (.cells #[.int .u32 0, .int .u32 0, .int .u32 0, .int .u32 0, .int .u32 0, .int .u32 0, .int .u32 0, .int .u32 0] 210 (0, 0)) ∧ Below B w wr)
    (fun i _ => 64 - (intOf i).toNat)
  case atStart =>
    have hb : Below B w (((w.alloc (.cells (ints .u32 [c0, c1, c2, c3, c4, c5, c6, c7]) 210)).alloc (.cells #[.int .u32 0, .int .u32 0, .int .u32 0, .int .u32 0, .int .u32 0, .int .u32 0, .int .u32 0, .int .u32 0] 210)).alloc (.cells (List.replicate 64 (Value.int .u32 0)).toArray 237)) := by
      rw [HB.out]; exact (((Below.refl _ _).alloc (Nat.le_refl _) _).alloc (by simp) _).alloc (by simp; omega) _
    refine ⟨0, by omega, rfl, ?_, ?_, ?_, hb⟩
    · have q : (w.alloc (.cells (ints .u32 [c0, c1, c2, c3, c4, c5, c6, c7]) 210)).heap.size = w.heap.size + 1 := by simp
      rw [HB.out, ← q]; exact heap_alloc2_new _ _ _
    · rw [HB.out]; exact blk_alloc (heap_alloc2_old w _ _)
    · have q : (w.alloc (.cells (ints .u32 [c0, c1, c2, c3, c4, c5, c6, c7]) 210)).heap.size = w.heap.size + 1 := by simp
      rw [HB.out, ← q]; exact heap_alloc2_old _ _ _
  case round =>
    obtain ⟨t, ht, rfl, hW, hH, hO, hbel⟩ := hrel
    have HW := bx hW; have HH := bx hH; have HO := bx hO; have BR := bx hbel
    clear hW hH hO hbel
    by_cases hlt : t < 64
    · have hlt' : (t : Int) < 64 := by omega
      have e1 := blk_int HW.out t (by rw [schedR_length]; omega)
      have e2 := blk_frozen t HW.out
      by_cases h16 : t < 16
      · have h16' : (t : Int) < 16 := by omega
        go_wp2_with fail
        have q0 : IntKind.i64.wrap (4 * (t : Int)) = 4 * t := IntWalk.i64_in _ (by omega)
        have q1 : IntKind.i64.wrap (4 * (t : Int) + 1) = 4 * t + 1 := IntWalk.i64_in _ (by omega)
        have q2 : IntKind.i64.wrap (4 * (t : Int) + 2) = 4 * t + 2 := IntWalk.i64_in _ (by omega)
        have q3 : IntKind.i64.wrap (4 * (t : Int) + 3) = 4 * t + 3 := IntWalk.i64_in _ (by omega)
        have n0 : (0 : Int) ≤ 4 * t := by omega
        have n1 : (0 : Int) ≤ 4 * t + 1 := by omega
        have n2 : (0 : Int) ≤ 4 * t + 2 := by omega
        have n3 : (0 : Int) ≤ 4 * t + 3 := by omega
        have m0 : (4 * (t : Int)).toNat = 4 * t := by omega
        have m1 : (4 * (t : Int) + 1).toNat = 4 * t + 1 := by omega
        have m2 : (4 * (t : Int) + 2).toNat = 4 * t + 2 := by omega
        have m3 : (4 * (t : Int) + 3).toNat = 4 * t + 3 := by omega
        have l0 : (4 * (t : Int)) < 64 := by omega
        have l1 : (4 * (t : Int)) + 1 < 64 := by omega
        have l2 : (4 * (t : Int)) + 2 < 64 := by omega
        have l3 : (4 * (t : Int)) + 3 < 64 := by omega
        refine region_tailC (fun w' => w' = wr.drew) 30 (by kernel_rfl) (by kernel_rfl) rfl ?_
        simp only [List.take_succ_cons, List.take_zero, List.drop_succ_cons, List.drop_zero]
        repeat (first
          | (refine quiet_take (v := ?_) _ rfl (by kernel_rfl) ?_ ?_; rotate_left 1; (focus (first | (intro w' hw'; clear hw'; unfold Oper.quietAt; go_simp; done) | (intro w' hw'; clear hw'; unfold Oper.quietAt; go_simp; with_reducible rfl) | (intro w' hw'; subst hw'; unfold Oper.quietAt; go_simp; first | done | with_reducible rfl))); try simp only [List.setIfInBounds_toArray, List.set_cons_zero, List.set_cons_succ]))
        refine wpQuiet_nil ?_
        rintro w' rfl
        go_wp2_with fail
        rw [wordR_str s t (by omega) (by omega) (by omega) (by omega)]
        exact ⟨⟨t + 1, by omega, by go_num, by rw [schedR, nextR, if_pos h16]; exact blk_set HW.out t _, blk_other HH.out (by show B ≠ B + 1 + 1; omega), blk_other HO.out (by show B + 1 ≠ B + 1 + 1; omega), (BR.out.setCell (by show B ≤ B + 1 + 1; omega) _).drew⟩, by simp [intOf]; omega⟩
      · obtain ⟨m, rfl⟩ : ∃ m, t = m + 16 := ⟨t - 16, by omega⟩
        have d1 := blk_int HW.out (m + 1) (by rw [schedR_length]; omega)
        have d2 := blk_int HW.out (m + 14) (by rw [schedR_length]; omega)
        have d3 := blk_int HW.out m (by rw [schedR_length]; omega)
        have d4 := blk_int HW.out (m + 9) (by rw [schedR_length]; omega)
        rw [getD_q] at d1 d2 d3 d4
        have SN := bx (schedR_next (bytesOf s) m)
        generalize (schedR (bytesOf s) (m + 16))[m + 1]?.getD 0 = g1 at *
        generalize (schedR (bytesOf s) (m + 16))[m + 14]?.getD 0 = g2 at *
        generalize (schedR (bytesOf s) (m + 16))[m]?.getD 0 = g3 at *
        generalize (schedR (bytesOf s) (m + 16))[m + 9]?.getD 0 = g4 at *
        go_wp2_with fail
        have q7 : IntKind.i64.wrap ((m : Int) + 16 - 7) = m + 9 := by rw [show (m : Int) + 16 - 7 = m + 9 by omega]; exact IntWalk.i64_in _ (by omega)
        have q8 : IntKind.i64.wrap (m : Int) = m := IntWalk.i64_in _ (by omega)
        have n7 : (0 : Int) ≤ m + 9 := by omega
        have m7 : ((m : Int) + 9).toNat = m + 9 := by omega
        have l7 : (m : Int) + 9 < 64 := by omega
        have l8 : (m : Int) < 64 := by omega
        refine region_tailC (fun w' => w' = wr.drew) 28 (by kernel_rfl) (by kernel_rfl) rfl ?_
        simp only [List.take_succ_cons, List.take_zero, List.drop_succ_cons, List.drop_zero]
        repeat (first
          | (refine quiet_take (v := ?_) _ rfl (by kernel_rfl) ?_ ?_; rotate_left 1; (focus (first | (intro w' hw'; clear hw'; unfold Oper.quietAt; go_simp; done) | (intro w' hw'; clear hw'; unfold Oper.quietAt; go_simp; with_reducible rfl) | (intro w' hw'; subst hw'; unfold Oper.quietAt; go_simp; first | done | with_reducible rfl | (go_at_call 120; refine (right_any _ _ (by decide) (by decide) _).mono ?_; rintro e w'' ⟨rfl, rfl⟩; refine ⟨?_, rfl⟩; with_reducible rfl)))); try simp only [List.setIfInBounds_toArray, List.set_cons_zero, List.set_cons_succ]))
        refine wpQuiet_nil ?_
        rintro w' rfl
        go_wp2_with fail
        exact ⟨⟨m + 16 + 1, by omega, by go_num, by rw [SN.out]; exact blk_set HW.out (m + 16) _, blk_other HH.out (by show B ≠ B + 1 + 1; omega), blk_other HO.out (by show B + 1 ≠ B + 1 + 1; omega), (BR.out.setCell (by show B ≤ B + 1 + 1; omega) _).drew⟩, by simp [intOf]; omega⟩
    · obtain rfl : t = 64 := by omega
      go_upto_if 20 with fail
      repeat (first
        | exact block_rest c0 c1 c2 c3 c4 c5 c6 c7 _ w wr B HB.out (schedR_length _ _) HW.out HH.out HO.out BR.out _ _ _ _ _ _ _ _ _ _ _ _ _ _ _ _ _ _ _ _ _ _ _ _ _ _ _ _ _ _ _ _ _ _ _ _ _ _ _ _ _ _ _ _ _ _ _ _ _ _ _ _ _ _ _ _ _ _ _ _ _ _ _ _ _ _ _ _ _ _ _ _ _ _ _ _ _ _ _ _ _ _ _ _ _ _ _ _ _ _ _ _ _ _ _ _ _ _ _ _ _ _ _ _ _ _ _ _ _ _ _ _ _ _ _ _ _ _ _ _ _ _ _ _ _ _ _ _ _ _ _ _ _ _ _ _ _ _ _ _ _ _ _ _ _ _ _ _ _ _ _ _ _ _ _ _ _ _ _ _ _ _ _ _ _ _ _ _ _ _ _ _ _ _ _ _ _ _ _ _ _ _ _ _ _ _ _ _ _ _ _
        | go_step)
end Go.Proofs.Ythnommoljikaiaa
