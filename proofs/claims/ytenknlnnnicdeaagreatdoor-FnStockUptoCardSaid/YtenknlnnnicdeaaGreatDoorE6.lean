/- Contracts of the program's functions, and what follows from them. -/
import Derived.Test.YtenknlnnnicdeaaGreatDoorE1
import Derived.Test.YtenknlnnnicdeaaGreatDoorMC
import Derived.Test.YtenknlnnnicdeaaGreatDoorMH
import Derived.Lib.Bytealg
set_option linter.unusedVariables false
set_option maxRecDepth 100000
set_option linter.unusedSimpArgs false
namespace Go.Proofs.YtenknlnnnicdeaaGreatDoor
open Go Go.Av

/-! Labels. -/

/-- The table of the powers of ten is laid. -/
noncomputable def ambT : Amb := Amb.var Tryz.prog "internal/strconv.uint64pow10" 0 (fun cs => cs = (Lib.pow10Tab.map fun z => Value.int .u64 z).toArray)
theorem ambT_tab {w : World} {F : List Nat} (h : ambT.on w F) : Lib.TabIs Tryz.prog w "internal/strconv.uint64pow10" .u64 Lib.pow10Tab := by
  obtain ⟨⟨_, cs, hv, rfl⟩, _⟩ := h
  exact hv

theorem FormatInt_ctA (m : Nat) (h : m ≤ 9223372036854775807) : CtA ambT Tryz.prog 106 [i64 m, i64 10] (str (Lib.decDigits m)) [] := by
  refine CtA.ofCalls ambT (vs := [.int .i64 m, .int .i64 10]) Tryz.func106 (by kernel_rfl) (by kernel_rfl) fun w hA => ?_
  refine (Tryz.strconv_FormatInt_10 m (by omega) (by omega) w (ambT_tab hA)).mono ?_
  rintro e w' ⟨rfl, k, os, rfl⟩
  refine ⟨_, rfl, (Kp.drewN [] w k).trans (Kp.grow [] _ os) (by simp), fun L => ?_⟩
  rw [Lib.itoa_nonneg]
  exact .lit _ _

noncomputable def X137 : Fx := ⟨Tryz.prog, tys, 137, Tryz.f137, [0]⟩
theorem X137_ok : X137.Ok := ⟨Tryz.func137, tys_ok⟩
theorem dec16_ct (n : Int) (h0 : 0 ≤ n) (h1 : n ≤ 32767) : CtA ambT Tryz.prog 137 [i16 n] (str (Lib.decDigits n.toNat)) [] := by
  obtain ⟨m, rfl⟩ := Int.eq_ofNat_of_zero_le h0
  refine CtA.intro ambT X137 X137_ok rfl rfl rfl rfl fun g hA hg => ?_
  repeat (refine Run.go rfl ?_)
  have e : IntKind.i64.wrap ((m : Nat) : Int) = m := wrap_i64 (by omega) (by omega)
  rw [e]
  refine Run.csA rfl ((FormatInt_ctA m (by omega)).at hA) rfl rfl ?_
  repeat (refine Run.go rfl ?_)
  exact Run.ret hg rfl rfl

noncomputable def X136 : Fx := ⟨Tryz.prog, tys, 136, Tryz.f136, [0]⟩
theorem X136_ok : X136.Ok := ⟨Tryz.func136, tys_ok⟩
theorem decI_ct (n : Int) (h0 : 0 ≤ n) (h1 : n < 100) : Ct Tryz.prog 136 [i64 n] (str (Lib.decDigits n.toNat)) [] := by
  obtain ⟨m, rfl⟩ := Int.eq_ofNat_of_zero_le h0
  refine Ct.intro X136 X136_ok rfl rfl rfl rfl fun g hg => ?_
  repeat (refine Run.go rfl ?_)
  refine Run.cs rfl (FormatInt_small_ct m (by omega)) rfl rfl ?_
  repeat (refine Run.go rfl ?_)
  exact Run.ret hg rfl rfl

/-- Noughts ahead. -/
def pad (n : Nat) (l : List UInt8) : List UInt8 := List.replicate (n - l.length) 48 ++ l

theorem repL (c : Nat) : Lib.repeatL [48] c = List.replicate c 48 := by
  induction c with
  | zero => rfl
  | succ c ih => rw [Lib.repeatL, ih]; rfl

theorem Repeat0_ct (c : Nat) (h : c ≤ 100) : Ct Tryz.prog 138 [str [48], i64 c] (str (List.replicate c 48)) [] := by
  refine Ct.ofCalls (vs := [.string ⟨([48] : List UInt8).toArray⟩, .int .i64 c]) Tryz.func138 (by kernel_rfl) (by kernel_rfl) fun w => ?_
  refine (Tryz.strings_Repeat ⟨([48] : List UInt8).toArray⟩ c w (by omega) (by show 1 * c ≤ _; omega)).mono ?_
  rintro e w' ⟨rfl, hb⟩
  refine ⟨_, rfl, Kp.of_below hb, fun L => ?_⟩
  rw [show Lib.repeatL (⟨([48] : List UInt8).toArray⟩ : ByteArray).data.toList c = List.replicate c 48 from repL c]
  exact .lit _ _

noncomputable def X105 : Fx := ⟨Tryz.prog, tys, 105, Tryz.f105, [0, 1]⟩
theorem X105_ok : X105.Ok := ⟨Tryz.func105, tys_ok⟩
theorem padded_ct (n : Int) (s : Nat) (h0 : 0 ≤ n) (h1 : n ≤ 32767) (hs : s ≤ 10) (hl : (Lib.decDigits n.toNat).length ≤ s) : CtA ambT Tryz.prog 105 [i16 n, i64 s] (str (pad s (Lib.decDigits n.toNat))) [] := by
  have e : IntKind.i64.wrap ((s : Int) - ((Lib.decDigits n.toNat).length : Nat)) = ((s - (Lib.decDigits n.toNat).length : Nat) : Int) := by rw [wrap_i64 (by omega) (by omega)]; omega
  refine CtA.intro ambT X105 X105_ok rfl rfl rfl rfl fun g hA hg => ?_
  repeat (refine Run.go rfl ?_)
  refine Run.csA rfl ((dec16_ct n h0 h1).at hA) rfl rfl ?_
  repeat (refine Run.go rfl ?_)
  refine Run.cs rfl (Repeat0_ct (s - (Lib.decDigits n.toNat).length) (by omega)) (by
    show [str [48], i64 (IntKind.i64.wrap ((s : Int) - ((Lib.decDigits n.toNat).toArray.size : Nat)))] = _
    rw [List.size_toArray, e]) rfl ?_
  repeat (refine Run.go rfl ?_)
  refine Run.val rfl rfl rfl (ValOk.scat (List.replicate (s - (Lib.decDigits n.toNat).length) 48) (Lib.decDigits n.toNat) rfl rfl rfl (by rw [List.length_replicate]; omega)) rfl ?_
  repeat (refine Run.go rfl ?_)
  exact Run.ret hg rfl rfl

noncomputable def X107 : Fx := ⟨Tryz.prog, tys, 107, Tryz.f107, [1]⟩
theorem X107_ok : X107.Ok := ⟨Tryz.func107, tys_ok⟩
theorem l07Digits_ct (n : Nat) (s : Nat) (h1 : n ≤ 32767) (hs : s ≤ 10) (hl : (Lib.decDigits n).length ≤ s) : Ct Tryz.prog 107 [i64 n, i64 s] (str (pad s (Lib.decDigits n))) [] := by
  generalize hD : Lib.decDigits n = D at hl
  refine Ct.intro X107 X107_ok rfl rfl rfl rfl fun g hg => ?_
  repeat (refine Run.go rfl ?_)
  refine Run.cs rfl (Decimal_ct n (by omega)) rfl rfl ?_
  rw [hD]
  repeat (refine Run.go rfl ?_)
  refine Run.loop (fun j : Nat => ⟨[(1, i64 s), (5, str (List.replicate j 48 ++ D))], []⟩) (fun j => j + D.length ≤ s) (fun j => s - j) 0 (by omega) ?_ ?_
  · exact St.Le.mk' ⟨rfl, rfl, trivial⟩ trivial
  · intro j hj IH
    repeat (refine Run.go rfl ?_)
    refine Run.cond rfl (fun h => ?_) (fun h => ?_)
    · have h : (⟨(List.replicate j (48 : UInt8) ++ D).toArray⟩ : ByteArray).size < s := by simpa using h
      rw [bsz, List.length_append, List.length_replicate] at h
      repeat (refine Run.go rfl ?_)
      refine Run.val rfl rfl rfl (ValOk.scat [48] (List.replicate j 48 ++ D) rfl rfl rfl (by simp only [List.length_append, List.length_replicate, List.length_cons, List.length_nil]; omega)) rfl ?_
      repeat (refine Run.go rfl ?_)
      exact Run.of (IH (j + 1) (by omega) (by omega)) ⟨rfl, rfl, trivial⟩ trivial
    · have h : s ≤ (⟨(List.replicate j (48 : UInt8) ++ D).toArray⟩ : ByteArray).size := by simpa using h
      rw [bsz, List.length_append, List.length_replicate] at h
      repeat (refine Run.go rfl ?_)
      refine Run.ret hg rfl ?_
      have : j = s - D.length := by omega
      rw [this]
      rfl

/-- The value of a character, below 0 if there is none. -/
def sv (c : Int) : Int := if 48 ≤ c ∧ c ≤ 57 then c - 48 else if 97 ≤ c ∧ c ≤ 122 then c - 97 + 1 else -1
theorem sv_rng (c : Int) : -1 ≤ sv c ∧ sv c ≤ 26 := by unfold sv; split; omega; split <;> omega

noncomputable def X140 : Fx := ⟨Tryz.prog, tys, 140, Tryz.f140, [0]⟩
theorem X140_ok : X140.Ok := ⟨Tryz.func140, tys_ok⟩
theorem l07Value_ct (c : Int) (hc : 0 ≤ c ∧ c ≤ 255) : Ct Tryz.prog 140 [u8 c] (i64 (sv c)) [] := by
  refine Ct.intro X140 X140_ok rfl rfl rfl rfl fun g hg => ?_
  have tail : ¬ (48 ≤ c ∧ c ≤ 57) → sv c = if 97 ≤ c ∧ c ≤ 122 then c - 97 + 1 else -1 := fun h => by rw [sv, if_neg h]
  repeat (refine Run.go rfl ?_)
  refine Run.bool 6 rfl (fun hA => ?_) (fun hA => ?_)
  · have hA : 48 ≤ c := by simpa using hA
    repeat (refine Run.go rfl ?_)
    refine Run.cond rfl (fun hB => ?_) (fun hB => ?_)
    · have hB : c ≤ 57 := by simpa using hB
      repeat (refine Run.go rfl ?_)
      refine Run.ret hg rfl ?_
      show i64 (IntKind.i64.wrap (IntKind.u8.wrap (c - 48))) = _
      rw [wrap_u8 (by omega) (by omega), wrap_i64 (by omega) (by omega), sv, if_pos ⟨hA, hB⟩]
    · have hB : ¬ c ≤ 57 := by simpa using hB
      repeat (refine Run.go rfl ?_)
      refine Run.bool 16 rfl (fun hC => ?_) (fun hC => ?_)
      · have hC : 97 ≤ c := by simpa using hC
        repeat (refine Run.go rfl ?_)
        refine Run.cond rfl (fun hD => ?_) (fun hD => ?_)
        · have hD : c ≤ 122 := by simpa using hD
          repeat (refine Run.go rfl ?_)
          refine Run.ret hg rfl ?_
          show i64 (IntKind.i64.wrap (IntKind.i64.wrap (IntKind.u8.wrap (c - 97)) + 1)) = _
          rw [wrap_u8 (by omega) (by omega), wrap_i64 (n := c - 97) (by omega) (by omega), wrap_i64 (by omega) (by omega), tail (by omega), if_pos ⟨hC, hD⟩]
        · have hD : ¬ c ≤ 122 := by simpa using hD
          repeat (refine Run.go rfl ?_)
          refine Run.ret hg rfl ?_
          show i64 (-1) = _
          rw [tail (by omega), if_neg (by omega)]
      · have hC : ¬ 97 ≤ c := by simpa using hC
        repeat (refine Run.go rfl ?_)
        refine Run.cond rfl (fun hD => by simp at hD) (fun hD => ?_)
        repeat (refine Run.go rfl ?_)
        refine Run.ret hg rfl ?_
        show i64 (-1) = _
        rw [tail (by omega), if_neg (by omega)]
  · have hA : ¬ 48 ≤ c := by simpa using hA
    repeat (refine Run.go rfl ?_)
    refine Run.cond rfl (fun hB => by simp at hB) (fun hB => ?_)
    repeat (refine Run.go rfl ?_)
    refine Run.bool 16 rfl (fun hC => ?_) (fun hC => ?_)
    · have hC : 97 ≤ c := by simpa using hC
      omega
    · repeat (refine Run.go rfl ?_)
      refine Run.cond rfl (fun hD => by simp at hD) (fun hD => ?_)
      repeat (refine Run.go rfl ?_)
      refine Run.ret hg rfl ?_
      show i64 (-1) = _
      rw [tail (by omega), if_neg (by omega)]

def labB : List UInt8 := [48, 49, 50, 51, 52, 53, 54, 55, 56, 57, 97, 98, 99, 100, 101, 102, 103, 104, 105, 106, 107, 108, 109, 110, 111, 112, 113, 114, 115, 116, 117, 118, 119, 120, 121, 122]

theorem IndexByte_ct (s : List UInt8) (c : Int) : Ct Tryz.prog 152 [str s, u8 c] (i64 (Lib.indexByte s c.toNat.toUInt8)) [] := by
  refine Ct.ofCalls (vs := [.string ⟨s.toArray⟩, .int .u8 c]) Tryz.func152 (by kernel_rfl) (by kernel_rfl) fun w => ?_
  refine (Tryz.strings_IndexByte ⟨s.toArray⟩ c w).mono ?_
  rintro e w' ⟨rfl, rfl⟩
  exact ⟨_, rfl, Kp.refl _ _, fun L => .lit _ _⟩

theorem lab_ix : ∀ n : Fin 256, (if 10 ≤ Lib.indexByte labB n.val.toUInt8 then Lib.indexByte labB n.val.toUInt8 - 10 + 1 else Lib.indexByte labB n.val.toUInt8) = sv (n.val : Int) ∧ -1 ≤ Lib.indexByte labB n.val.toUInt8 ∧ Lib.indexByte labB n.val.toUInt8 ≤ 35 := by decide +kernel

noncomputable def X135 : Fx := ⟨Tryz.prog, tys, 135, Tryz.f135, [0]⟩
theorem X135_ok : X135.Ok := ⟨Tryz.func135, tys_ok⟩
theorem valueOf_ct (c : Int) (hc : 0 ≤ c ∧ c ≤ 255) : Ct Tryz.prog 135 [u8 c] (i64 (sv c)) [] := by
  obtain ⟨n, rfl⟩ := Int.eq_ofNat_of_zero_le hc.1
  obtain ⟨e1, e2, e3⟩ := lab_ix ⟨n, by omega⟩
  simp only at e1 e2 e3
  generalize hx : Lib.indexByte labB n.toUInt8 = x at e1 e2 e3
  refine Ct.intro X135 X135_ok rfl (by kernel_rfl) rfl rfl fun g hg => ?_
  repeat (refine Run.go rfl ?_)
  refine Run.cs rfl (IndexByte_ct labB n) rfl rfl ?_
  rw [show ((n : Nat) : Int).toNat.toUInt8 = n.toUInt8 from rfl, hx]
  repeat (refine Run.go rfl ?_)
  refine Run.cond rfl (fun h => ?_) (fun h => ?_)
  · have h : 10 ≤ x := by simpa using h
    rw [if_pos h] at e1
    repeat (refine Run.go rfl ?_)
    refine Run.ret hg rfl ?_
    show i64 (IntKind.i64.wrap (IntKind.i64.wrap (x - 10) + 1)) = _
    rw [wrap_i64 (n := x - 10) (by omega) (by omega), wrap_i64 (by omega) (by omega), ← e1]
  · have h : ¬ 10 ≤ x := by simpa using h
    rw [if_neg h] at e1
    repeat (refine Run.go rfl ?_)
    refine Run.ret hg rfl ?_
    show i64 x = _
    rw [e1]

/-! The check digit. -/

def wL : List Int := [1, 3, 7, 9, 1, 3, 7, 9]
def bv (t : List UInt8) (i : Nat) : Int := ((t.getD i 0).toNat : Int)
/-- The sum of the first j products. -/
def psum (t : List UInt8) : Nat → Int
  | 0 => 0
  | j + 1 => psum t j + wL.getD j 0 * sv (bv t j)
theorem bv_rng (t : List UInt8) (i : Nat) : 0 ≤ bv t i ∧ bv t i ≤ 255 := by
  unfold bv
  have := (t.getD i 0).toNat_lt
  omega
theorem wL_rng (j : Nat) : 0 ≤ wL.getD j 0 ∧ wL.getD j 0 ≤ 9 := by
  by_cases h : j < 8
  · have hj : j = 0 ∨ j = 1 ∨ j = 2 ∨ j = 3 ∨ j = 4 ∨ j = 5 ∨ j = 6 ∨ j = 7 := by omega
    rcases hj with h | h | h | h | h | h | h | h <;> subst h <;> decide
  · have : wL.getD j 0 = 0 := by rw [List.getD_eq_getElem?_getD, List.getElem?_eq_none (by show 8 ≤ j; omega)]; rfl
    omega
theorem prod_rng (t : List UInt8) (j : Nat) : -9 ≤ wL.getD j 0 * sv (bv t j) ∧ wL.getD j 0 * sv (bv t j) ≤ 234 := by
  have h1 := wL_rng j
  have h2 := sv_rng (bv t j)
  generalize wL.getD j 0 = x at *
  generalize sv (bv t j) = y at *
  have hx : x = 0 ∨ x = 1 ∨ x = 2 ∨ x = 3 ∨ x = 4 ∨ x = 5 ∨ x = 6 ∨ x = 7 ∨ x = 8 ∨ x = 9 := by omega
  rcases hx with h | h | h | h | h | h | h | h | h | h <;> subst h <;> omega
theorem psum_rng (t : List UInt8) (j : Nat) : -9 * (j : Int) ≤ psum t j ∧ psum t j ≤ 234 * (j : Int) := by
  induction j with
  | zero => simp [psum]
  | succ j ih =>
    have := prod_rng t j
    simp only [psum]
    push_cast
    omega
theorem psum_nonneg (t : List UInt8) (j : Nat) (h : ∀ i, i < j → 0 ≤ sv (bv t i)) : 0 ≤ psum t j := by
  induction j with
  | zero => simp [psum]
  | succ j ih =>
    have h1 := ih fun i hi => h i (by omega)
    have h2 := h j (by omega)
    have h3 := (wL_rng j).1
    have := Int.mul_nonneg h3 h2
    simp only [psum]
    omega

theorem getD_some (t : List UInt8) (i : Nat) (h : i < t.length) : t[i]? = some (t.getD i 0) := by
  rw [List.getD_eq_getElem?_getD, List.getElem?_eq_getElem h]; rfl

noncomputable def X134 : Fx := ⟨Tryz.prog, tys, 134, Tryz.f134, []⟩
theorem X134_ok : X134.Ok := ⟨Tryz.func134, tys_ok⟩
theorem weights_ct : Ct Tryz.prog 134 [] (.own 1 true (wL.map i64)) [] := by
  refine Ct.intro X134 X134_ok rfl rfl rfl rfl fun g hg => ?_
  repeat (refine Run.go rfl ?_)
  refine Run.buildSlice (wL.map i64) rfl rfl rfl rfl rfl rfl rfl rfl rfl rfl rfl rfl rfl rfl ?_
  repeat (refine Run.go rfl ?_)
  exact Run.ret hg rfl rfl

/-- The digit for a sum. -/
def dgt (t : List UInt8) : UInt8 := UInt8.ofNat (48 + (psum t 8).toNat % 10)

noncomputable def X104 : Fx := ⟨Tryz.prog, tys, 104, Tryz.f104, [0]⟩
theorem X104_ok : X104.Ok := ⟨Tryz.func104, tys_ok⟩
theorem checked_ct (t : List UInt8) (hl : 8 ≤ t.length) (hl2 : t.length ≤ 1000) (hv : ∀ i, i < 8 → 0 ≤ sv (bv t i)) : Ct Tryz.prog 104 [str t] (str (t ++ [dgt t])) [] := by
  refine Ct.intro X104 X104_ok rfl (by kernel_rfl) rfl rfl fun g hg => ?_
  repeat (refine Run.go rfl ?_)
  refine Run.cs rfl weights_ct rfl rfl ?_
  refine Run.unpack 6 rfl rfl ?_
  repeat (refine Run.go rfl ?_)
  refine Run.loop (fun j : Nat => ⟨[(0, str t), (3, i64 (psum t j)), (6, .vec (6, 0) 0 8), (7, i64 8), (8, i64 j)], [((6, 0), .vec 1 true (wL.map i64))]⟩) (fun j => j ≤ 8) (fun j => 8 - j) 0 (by omega) ?_ ?_
  · exact St.Le.mk' ⟨rfl, rfl, rfl, rfl, rfl, trivial⟩ ⟨rfl, trivial⟩
  · intro j hj IH
    repeat (refine Run.go rfl ?_)
    refine Run.cond rfl (fun h => ?_) (fun h => ?_)
    · have hlt : j < 8 := by simp at h; omega
      have hwj : (wL.map i64)[0 + ((j : Int)).toNat]? = some (i64 (wL.getD j 0)) := by
        have : 0 + ((j : Int)).toNat = j := by omega
        rw [this, List.getElem?_map, List.getElem?_eq_getElem (show j < wL.length from hlt), List.getD_eq_getElem?_getD, List.getElem?_eq_getElem (show j < wL.length from hlt)]
        rfl
      have hp := prod_rng t j
      have hs := psum_rng t j
      repeat (refine Run.go rfl ?_)
      refine Run.val rfl rfl rfl (ValOk.idxv rfl rfl rfl rfl rfl rfl (by omega) (by omega)) rfl ?_
      refine Run.val rfl rfl rfl (ValOk.loadv (i64 (wL.getD j 0)) rfl rfl rfl rfl hwj rfl) rfl ?_
      repeat (refine Run.go rfl ?_)
      refine Run.val rfl rfl rfl (ValOk.sidx t (t.getD j 0) rfl rfl rfl rfl rfl (by omega) (by rw [Int.toNat_natCast]; exact getD_some t j (by omega))) rfl ?_
      refine Run.cs rfl (valueOf_ct (bv t j) (bv_rng t j)) rfl rfl ?_
      repeat (refine Run.go rfl ?_)
      refine Run.of (IH (j + 1) (by omega) (by omega)) ⟨rfl, ?_, rfl, rfl, ?_, trivial⟩ ⟨rfl, trivial⟩
      · show i64 (IntKind.i64.wrap (psum t j + IntKind.i64.wrap (wL.getD j 0 * sv (bv t j)))) = i64 (psum t j + wL.getD j 0 * sv (bv t j))
        rw [wrap_i64 (n := wL.getD j 0 * sv (bv t j)) (by omega) (by omega), wrap_i64 (by omega) (by omega)]
      · show i64 _ = i64 _
        rw [wrap_i64 (by omega) (by omega)]
        rfl
    · have hj' : j = 8 := by simp at h; omega
      subst hj'
      have hn := psum_nonneg t 8 hv
      have em : (psum t 8).tmod 10 = (((psum t 8).toNat % 10 : Nat) : Int) := by rw [Int.tmod_eq_emod_of_nonneg hn]; omega
      repeat (refine Run.go rfl ?_)
      rw [em]
      refine Run.cs rfl (decI_ct ((((psum t 8).toNat % 10 : Nat)) : Int) (by omega) (by omega)) rfl rfl ?_
      rw [Int.toNat_natCast, Lib.decDigits_one (by omega)]
      refine Run.val rfl rfl rfl (ValOk.scat t [UInt8.ofNat (48 + (psum t 8).toNat % 10)] rfl rfl rfl (by simp only [List.length_cons, List.length_nil]; omega)) rfl ?_
      repeat (refine Run.go rfl ?_)
      exact Run.ret hg rfl rfl

noncomputable def X108 : Fx := ⟨Tryz.prog, tys, 108, Tryz.f108, [0]⟩
theorem X108_ok : X108.Ok := ⟨Tryz.func108, tys_ok⟩
theorem l07Check_ct (t : List UInt8) (hl : 8 ≤ t.length) (hv : ∀ i, i < 8 → 0 ≤ sv (bv t i)) : Ct Tryz.prog 108 [str t] (u8 (48 + (psum t 8).toNat % 10 : Nat)) [] := by
  refine Ct.intro X108 X108_ok rfl (by kernel_rfl) rfl rfl fun g hg => ?_
  repeat (refine Run.go rfl ?_)
  refine Run.val rfl rfl rfl (ValOk.buildArr (cs := [i64 1, i64 3, i64 7, i64 9]) rfl rfl rfl rfl rfl) rfl ?_
  repeat (refine Run.go rfl ?_)
  refine Run.loop (fun j : Nat => ⟨[(0, str t), (3, .bp (3, 0) 0), (4, i64 (psum t j)), (5, i64 j)], [((3, 0), .box [i64 1, i64 3, i64 7, i64 9])]⟩) (fun j => j ≤ 8) (fun j => 8 - j) 0 (by omega) ?_ ?_
  · exact St.Le.mk' ⟨rfl, rfl, rfl, rfl, trivial⟩ ⟨rfl, trivial⟩
  · intro j hj IH
    repeat (refine Run.go rfl ?_)
    refine Run.cond rfl (fun h => ?_) (fun h => ?_)
    · have hlt : j < 8 := by simp at h; omega
      have em : (j : Int).tmod 4 = ((j % 4 : Nat) : Int) := by rw [Int.tmod_eq_emod_of_nonneg (by omega)]; omega
      have hw4 : [i64 1, i64 3, i64 7, i64 9][0 + (((j % 4 : Nat) : Int)).toNat * 1]? = some (i64 (wL.getD j 0)) := by
        have hj : j = 0 ∨ j = 1 ∨ j = 2 ∨ j = 3 ∨ j = 4 ∨ j = 5 ∨ j = 6 ∨ j = 7 := by omega
        rcases hj with h | h | h | h | h | h | h | h <;> subst h <;> rfl
      have hp := prod_rng t j
      have hs := psum_rng t j
      repeat (refine Run.go rfl ?_)
      refine Run.draw (by kernel_rfl) (by decide +kernel) ?_
      repeat (refine Quiet.go rfl ?_)
      refine Quiet.val rfl rfl (ValOk.sidx t (t.getD j 0) rfl rfl rfl rfl rfl (by omega) (by rw [Int.toNat_natCast]; exact getD_some t j (by omega))) rfl ?_
      refine Quiet.cs rfl rfl rfl rfl rfl (l07Value_ct (bv t j) (bv_rng t j)) rfl rfl ?_
      repeat (refine Quiet.go rfl ?_)
      rw [em]
      refine Quiet.val rfl rfl (ValOk.idxArr rfl rfl rfl (by omega) (by show ((j % 4 : Nat) : Int) < 4; omega) rfl) rfl ?_
      refine Quiet.val rfl rfl (ValOk.loadb (i64 (wL.getD j 0)) rfl rfl rfl rfl rfl hw4 rfl) rfl ?_
      repeat (refine Quiet.go rfl ?_)
      refine Quiet.nil ?_
      repeat (refine Run.go rfl ?_)
      refine Run.of (IH (j + 1) (by omega) (by omega)) ⟨rfl, rfl, ?_, ?_, trivial⟩ ⟨rfl, trivial⟩
      · show i64 (IntKind.i64.wrap (psum t j + IntKind.i64.wrap (sv (bv t j) * wL.getD j 0))) = i64 (psum t j + wL.getD j 0 * sv (bv t j))
        rw [Int.mul_comm (sv (bv t j)), wrap_i64 (n := wL.getD j 0 * sv (bv t j)) (by omega) (by omega), wrap_i64 (by omega) (by omega)]
      · show i64 _ = i64 _
        rw [wrap_i64 (by omega) (by omega)]
        rfl
    · have hj' : j = 8 := by simp at h; omega
      subst hj'
      have hn := psum_nonneg t 8 hv
      have em : (psum t 8).tmod 10 = (((psum t 8).toNat % 10 : Nat) : Int) := by rw [Int.tmod_eq_emod_of_nonneg hn]; omega
      repeat (refine Run.go rfl ?_)
      refine Run.ret hg rfl ?_
      show u8 (IntKind.u8.wrap (IntKind.i64.wrap (48 + (psum t 8).tmod 10))) = _
      rw [em, wrap_i64 (by omega) (by omega), wrap_u8 (by omega) (by omega)]
      rfl
end Go.Proofs.YtenknlnnnicdeaaGreatDoor
