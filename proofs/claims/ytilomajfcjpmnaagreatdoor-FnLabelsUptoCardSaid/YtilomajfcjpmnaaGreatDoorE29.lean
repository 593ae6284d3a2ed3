/- Contracts of the program's functions, and what follows from them. -/
import Derived.Test.YtilomajfcjpmnaaGreatDoorE27
import Derived.Test.YtilomajfcjpmnaaGreatDoorMH
set_option linter.unusedVariables false
set_option maxRecDepth 100000
set_option linter.unusedSimpArgs false
namespace Go.Proofs.YtilomajfcjpmnaaGreatDoor
open Go Go.Av

/-! Labels that differ in one byte: the reference. -/

def lettersL : List UInt8 := [48, 49, 50, 51, 52, 53, 54, 55, 56, 57, 97, 98, 99, 100, 101, 102, 103, 104, 105, 106, 107, 108, 109, 110, 111, 112, 113, 114, 115, 116, 117, 118, 119, 120, 121, 122]
def rep (t : List UInt8) (i : Nat) (c : UInt8) : List UInt8 := t.take i ++ [c] ++ t.drop (i + 1)
theorem rep_eq {t : List UInt8} {i : Nat} (h : i < t.length) (c : UInt8) : rep t i c = t.set i c := by
  unfold rep
  rw [List.set_eq_take_append_cons_drop, if_pos h, List.append_assoc]
  rfl
theorem rep_ne {t : List UInt8} {i : Nat} (h : i < t.length) (c : UInt8) : rep t i c = t ↔ c = t[i] := by
  rw [rep_eq h]
  constructor
  · intro e
    have : (t.set i c)[i]? = t[i]? := by rw [e]
    rw [List.getElem?_set_self h, List.getElem?_eq_getElem h] at this
    exact Option.some.inj this
  · rintro rfl
    exact List.set_getElem_self h
def nearAll (t : List UInt8) : List (List UInt8) := (List.range 9).flatMap fun i => lettersL.map (rep t i)
def nrRes (t : List UInt8) : List (List UInt8) × Int := if t.length = 9 then (lbsOf t (nearAll t), 0) else ([], 5)

/-- What is a near label, of the first n tries. -/
def Nr (t : List UInt8) (n : Nat) (x : List UInt8) : Prop := ∃ m, m < n ∧ x = rep t (m / 36) (lettersL.getD (m % 36) 0) ∧ x ≠ t ∧ isLb x = true
theorem Nr_succ {t : List UInt8} {n : Nat} {x : List UInt8} : Nr t (n + 1) x ↔ (x = rep t (n / 36) (lettersL.getD (n % 36) 0) ∧ x ≠ t ∧ isLb x = true) ∨ Nr t n x := by
  unfold Nr
  constructor
  · rintro ⟨m, hm, h⟩
    by_cases e : m = n
    · subst e; exact .inl h
    · exact .inr ⟨m, by omega, h⟩
  · rintro (h | ⟨m, hm, h⟩)
    · exact ⟨n, by omega, h⟩
    · exact ⟨m, by omega, h⟩
theorem nearAll_mem (t x : List UInt8) : x ∈ nearAll t ↔ ∃ m, m < 324 ∧ x = rep t (m / 36) (lettersL.getD (m % 36) 0) := by
  unfold nearAll
  rw [List.mem_flatMap]
  constructor
  · rintro ⟨i, hi, hx⟩
    rw [List.mem_range] at hi
    obtain ⟨c, hc, rfl⟩ := List.mem_map.1 hx
    obtain ⟨k, hk, rfl⟩ := List.getElem_of_mem hc
    have hk : k < 36 := hk
    refine ⟨36 * i + k, by omega, ?_⟩
    rw [show (36 * i + k) / 36 = i by omega, show (36 * i + k) % 36 = k by omega, List.getD_eq_getElem?_getD, List.getElem?_eq_getElem hk]
    rfl
  · rintro ⟨m, hm, rfl⟩
    have hk : m % 36 < lettersL.length := Nat.mod_lt _ (by decide)
    refine ⟨m / 36, List.mem_range.2 (by omega), List.mem_map.2 ⟨_, List.getElem_mem hk, ?_⟩⟩
    rw [List.getD_eq_getElem?_getD, List.getElem?_eq_getElem hk]
    rfl

noncomputable def X30 : Fx := ⟨Tryz.prog, tys, 30, Tryz.f30, [0]⟩
theorem X30_ok : X30.Ok := ⟨Tryz.func30, tys_ok⟩
theorem specNear_ct (t : List UInt8) (hlen : t.length ≤ 1048576) : Ct Tryz.prog 30 [str t] (.tup [.ro 1 false ((nrRes t).1.map str), i64 (nrRes t).2]) [] := by
  refine Ct.intro X30 X30_ok rfl (by kernel_rfl) rfl rfl fun g hg => ?_
  repeat (refine Run.go rfl ?_)
  refine Run.cond rfl (fun h => ?_) (fun h => ?_)
  · have h9 : t.length ≠ 9 := by
      have h2 : ((((⟨t.toArray⟩ : ByteArray).size : Nat) : Int) != 9) = true := h
      rw [bsz] at h2
      intro e
      rw [e] at h2
      simp at h2
    have hr : nrRes t = ([], 5) := by rw [nrRes, if_neg h9]
    rw [hr] at hg
    repeat (refine Run.go rfl ?_)
    refine Run.buildSlice [] rfl rfl rfl rfl rfl rfl rfl rfl rfl rfl rfl rfl rfl rfl ?_
    repeat (refine Run.go rfl ?_)
    refine Run.loosen0 2 rfl ?_
    refine Run.freeze 2 (v' := .ro 1 false []) rfl rfl rfl ?_
    exact Run.ret hg rfl rfl
  have h9 : t.length = 9 := by
    have h2 : ((((⟨t.toArray⟩ : ByteArray).size : Nat) : Int) != 9) = false := h
    rw [bsz] at h2
    simp at h2
    omega
  have hr : nrRes t = (lbsOf t (nearAll t), 0) := by rw [nrRes, if_pos h9]
  rw [hr] at hg
  repeat (refine Run.go rfl ?_)
  refine Run.buildSlice [] rfl rfl rfl rfl rfl rfl rfl rfl rfl rfl rfl rfl rfl rfl ?_
  repeat (refine Run.go rfl ?_)
  refine Run.loosen0 5 rfl ?_
  refine Run.freeze 5 (v' := .ro 1 false []) rfl rfl rfl ?_
  refine Run.loop (fun q : Nat × List (List UInt8) => ⟨[(0, str t), (4, str lettersL), (5, .ro 1 false (q.2.map str)), (6, i64 q.1)], []⟩)
    (fun q => q.1 ≤ 9 ∧ SS q.2 ∧ (∀ x, x ∈ q.2 ↔ Nr t (36 * q.1) x) ∧ q.2.length ≤ 36 * q.1) (fun q => 9 - q.1) (0, []) ⟨by omega, by simp [SS], by simp [Nr], by simp⟩ ?_ ?_
  · exact St.Le.mk' ⟨rfl, rfl, rfl, rfl, trivial⟩ trivial
  rintro ⟨i, out⟩ ⟨hi, hss, hmem, hol⟩ IH
  simp only at hi hss hmem hol IH
  repeat (refine Run.go rfl ?_)
  refine Run.cond rfl (fun h => ?_) (fun h => ?_)
  · have hlt : i < 9 := by
      have h2 : decide ((i : Int) < (((⟨t.toArray⟩ : ByteArray).size : Nat) : Int)) = true := h
      rw [bsz] at h2
      have := of_decide_eq_true h2
      omega
    clear h
    repeat (refine Run.go rfl ?_)
    refine Run.loop (fun q : Nat × List (List UInt8) => ⟨[(0, str t), (4, str lettersL), (5, .ro 1 false (q.2.map str)), (6, i64 i), (7, i64 q.1)], []⟩)
      (fun q => q.1 ≤ 36 ∧ SS q.2 ∧ (∀ x, x ∈ q.2 ↔ Nr t (36 * i + q.1) x) ∧ q.2.length ≤ 36 * i + q.1) (fun q => 36 - q.1) (0, out) ⟨by omega, hss, hmem, hol⟩ ?_ ?_
    · exact St.Le.mk' ⟨rfl, rfl, rfl, rfl, rfl, trivial⟩ trivial
    clear hss hmem hol out
    rintro ⟨k, out⟩ ⟨hk, hss, hmem, hol⟩ IH2
    simp only at hk hss hmem hol IH2
    have w1 : IntKind.i64.wrap ((k : Int) + 1) = ((k + 1 : Nat) : Int) := by rw [wrap_i64 (by omega) (by omega)]; omega
    have w2 : IntKind.i64.wrap ((i : Int) + 1) = ((i + 1 : Nat) : Int) := by rw [wrap_i64 (by omega) (by omega)]; omega
    have w1' : IntKind.i64.wrap ((((k, out) : Nat × List (List UInt8)).1 : Int) + 1) = ((k + 1 : Nat) : Int) := w1
    repeat (refine Run.go rfl ?_)
    refine Run.cond rfl (fun h => ?_) (fun h => ?_)
    · have hlk : k < 36 := by
        have h2 : decide ((k : Int) < 36) = true := h
        have := of_decide_eq_true h2
        omega
      clear h
      have hlk2 : k < lettersL.length := hlk
      have hsucc : ∀ x, Nr t (36 * i + (k + 1)) x ↔ (x = rep t i lettersL[k] ∧ x ≠ t ∧ isLb x = true) ∨ Nr t (36 * i + k) x := by
        intro x
        rw [show 36 * i + (k + 1) = (36 * i + k) + 1 by omega, Nr_succ, show (36 * i + k) / 36 = i by omega, show (36 * i + k) % 36 = k by omega, List.getD_eq_getElem?_getD, List.getElem?_eq_getElem hlk2]
        rfl
      have hone : (lettersL.take (k + 1)).drop k = [lettersL[k]] := by
        rw [List.take_succ_eq_append_getElem hlk2, List.drop_append_of_le_length (by rw [List.length_take]; omega), List.drop_eq_nil_of_le (by rw [List.length_take]; omega)]
        rfl
      have hne := rep_ne (t := t) (i := i) (by omega) lettersL[k]
      have hrep : t.take i ++ [lettersL[k]] ++ t.drop (i + 1) = rep t i lettersL[k] := rfl
      have hatk : lettersL[k]? = some lettersL[k] := List.getElem?_eq_getElem hlk2
      have hll : lettersL.length = 36 := rfl
      repeat (refine Run.go rfl ?_)
      refine Run.draw (by kernel_rfl) (by decide +kernel) ?_
      repeat (refine Quiet.go rfl ?_)
      refine Quiet.val rfl rfl (ValOk.scut (s := (0 : Int)) (h := (i : Int)) t (t.take i) rfl rfl rfl rfl rfl rfl (by omega) (by omega) (by omega) (by simp only [Int.toNat_natCast, Int.toNat_zero, List.drop_zero])) rfl ?_
      repeat (refine Quiet.go rfl ?_)
      rw [w1']
      refine Quiet.val rfl rfl (ValOk.scut (s := (k : Int)) (h := ((k + 1 : Nat) : Int)) lettersL [lettersL[k]] rfl rfl rfl rfl rfl rfl (by omega) (by omega) (by omega) (by simp only [Int.toNat_natCast]; exact hone)) rfl ?_
      generalize lettersL[k] = c at hsucc hone hne hrep hatk
      refine Quiet.val rfl rfl (ValOk.scat (t.take i) [c] rfl rfl rfl (by simp only [List.length_take, List.length_cons, List.length_nil]; omega)) rfl ?_
      repeat (refine Quiet.go rfl ?_)
      rw [w2]
      refine Quiet.val rfl rfl (ValOk.scut (s := ((i + 1 : Nat) : Int)) (h := (t.length : Int)) t (t.drop (i + 1)) rfl rfl rfl rfl rfl rfl (by omega) (by omega) (by omega) (by simp only [Int.toNat_natCast, List.take_length])) rfl ?_
      refine Quiet.val rfl rfl (ValOk.scat (t.take i ++ [c]) (t.drop (i + 1)) rfl rfl rfl (by simp only [List.length_append, List.length_take, List.length_drop, List.length_cons, List.length_nil]; omega)) rfl ?_
      repeat (refine Quiet.go rfl ?_)
      refine Quiet.nil ?_
      rw [hrep]
      have hit : t[i]? = some (t[i]'(by omega)) := List.getElem?_eq_getElem (by omega)
      have hci : c = (t[i]'(by omega)) ↔ (c.toNat : Int) = ((t[i]'(by omega)).toNat : Int) := by
        constructor
        · intro e
          rw [← e]
        · intro e
          exact UInt8.toNat_inj.1 (by omega)
      generalize rep t i c = x at hsucc hne hrep
      generalize (t[i]'(by omega)) = d at hne hit hci
      repeat (refine Run.go rfl ?_)
      refine Run.draw (by kernel_rfl) (by decide +kernel) ?_
      repeat (refine Quiet.go rfl ?_)
      refine Quiet.val rfl rfl (ValOk.sidx lettersL c rfl rfl rfl rfl rfl (by omega) hatk) rfl ?_
      repeat (refine Quiet.go rfl ?_)
      refine Quiet.val rfl rfl (ValOk.sidx t d rfl rfl rfl rfl rfl (by omega) hit) rfl ?_
      repeat (refine Quiet.go rfl ?_)
      refine Quiet.bool 47 rfl (fun h => ?_) (fun h => ?_)
      · have hxt : x ≠ t := by
          intro e
          have h3 := hci.1 (hne.1 e)
          rw [h3] at h
          simp at h
        repeat (refine Quiet.go rfl ?_)
        refine Quiet.cs rfl rfl rfl rfl rfl (l07Is_ct x) rfl rfl ?_
        repeat (refine Quiet.go rfl ?_)
        refine Quiet.nil ?_
        repeat (refine Run.go rfl ?_)
        refine Run.cond rfl (fun h => ?_) (fun h => ?_)
        · have hlb : isLb x = true := h
          obtain ⟨p1, p2, p3⟩ := putS_facts (x := x) hss
          repeat (refine Run.go rfl ?_)
          refine Run.callp rfl rfl rfl rfl rfl rfl rfl rfl rfl (l07Put_ct out x (by omega)) (by decide) (by decide) ?_
          repeat (refine Run.go rfl ?_)
          refine Run.of (IH2 (k + 1, putS x out) ⟨by simp only; omega, p1, fun y => ?_, by simp only; omega⟩ (by simp only; omega)) ⟨rfl, rfl, rfl, rfl, ?_, trivial⟩ trivial
          · show y ∈ putS x out ↔ Nr t (36 * i + (k + 1)) y
            rw [hsucc y, p2 y, hmem y]
            constructor
            · rintro (rfl | hy)
              · exact .inl ⟨rfl, hxt, hlb⟩
              · exact .inr hy
            · rintro (⟨rfl, -⟩ | hy)
              · exact .inl rfl
              · exact .inr hy
          · show i64 _ = i64 _
            rw [w1']
        · have hlb : isLb x = false := h
          repeat (refine Run.go rfl ?_)
          refine Run.of (IH2 (k + 1, out) ⟨by simp only; omega, hss, fun y => ?_, by simp only; omega⟩ (by simp only; omega)) ⟨rfl, rfl, rfl, rfl, ?_, trivial⟩ trivial
          · show y ∈ out ↔ Nr t (36 * i + (k + 1)) y
            rw [hsucc y, hmem y]
            constructor
            · exact .inr
            · rintro (⟨rfl, -, h2⟩ | hy)
              · rw [hlb] at h2; cases h2
              · exact hy
          · show i64 _ = i64 _
            rw [w1']
      · have hxt : x = t := by
          refine hne.2 (hci.2 ?_)
          simpa using h
        repeat (refine Quiet.go rfl ?_)
        refine Quiet.nil ?_
        repeat (refine Run.go rfl ?_)
        refine Run.cond rfl (fun h => by cases h) (fun h => ?_)
        repeat (refine Run.go rfl ?_)
        refine Run.of (IH2 (k + 1, out) ⟨by simp only; omega, hss, fun y => ?_, by simp only; omega⟩ (by simp only; omega)) ⟨rfl, rfl, rfl, rfl, ?_, trivial⟩ trivial
        · show y ∈ out ↔ Nr t (36 * i + (k + 1)) y
          rw [hsucc y, hmem y]
          constructor
          · exact .inr
          · rintro (⟨rfl, h2, -⟩ | hy)
            · exact absurd hxt h2
            · exact hy
        · show i64 _ = i64 _
          rw [w1']
    · have hk36 : k = 36 := by
        have h2 : decide ((k : Int) < 36) = false := h
        have := of_decide_eq_false h2
        omega
      subst hk36
      repeat (refine Run.go rfl ?_)
      refine Run.of (IH (i + 1, out) ⟨by simp only; omega, hss, fun y => ?_, by simp only; omega⟩ (by simp only; omega)) ⟨rfl, rfl, rfl, ?_, trivial⟩ trivial
      · show y ∈ out ↔ Nr t (36 * (i + 1)) y
        rw [hmem y, show 36 * (i + 1) = 36 * i + 36 by omega]
      · show i64 _ = i64 _
        rw [w2]
  · have hi9 : i = 9 := by
      have h2 : decide ((i : Int) < (((⟨t.toArray⟩ : ByteArray).size : Nat) : Int)) = false := h
      rw [bsz] at h2
      have := of_decide_eq_false h2
      omega
    subst hi9
    obtain ⟨f1, f2, f3⟩ := lbsOf_facts t (nearAll t)
    have he : out = lbsOf t (nearAll t) := by
      refine ss_ext hss f1 fun x => ?_
      rw [hmem x, f2 x, nearAll_mem]
      unfold Nr
      constructor
      · rintro ⟨m, hm, h1, h2⟩
        exact ⟨⟨m, hm, h1⟩, h2⟩
      · rintro ⟨⟨m, hm, h1⟩, h2⟩
        exact ⟨m, hm, h1, h2⟩
    rw [← he] at hg
    repeat (refine Run.go rfl ?_)
    exact Run.ret hg rfl rfl
end Go.Proofs.YtilomajfcjpmnaaGreatDoor
