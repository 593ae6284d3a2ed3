/- Contracts of the program's functions, and what follows from them. -/
import Derived.Test.YtilomajfcjpmnaaGreatDoorE29
set_option linter.unusedVariables false
set_option maxRecDepth 100000
set_option linter.unusedSimpArgs false
namespace Go.Proofs.YtilomajfcjpmnaaGreatDoor
open Go Go.Av

/-! Labels that differ in one byte: the program, and the law. -/

theorem decode_w (s : ByteArray) (i : Nat) : 1 ≤ (Utf8.decode s i).2 ∧ (1 < (Utf8.decode s i).2 → 128 ≤ (s.get! (i + 0)).toNat) := by
  by_cases h : (s.get! (i + 0)).toNat < 128
  · have e : Utf8.decode s i = ((s.get! (i + 0)).toNat, 1) := by
      simp only [Utf8.decode]
      rw [if_pos h]
    rw [e]
    exact ⟨Nat.le_refl _, fun h => absurd h (Nat.lt_irrefl 1)⟩
  · refine ⟨?_, fun _ => by omega⟩
    simp only [Utf8.decode]
    repeat' split
    all_goals simp

/-- Another byte is none of a label's. -/
def hid (t : List UInt8) (i : Nat) : Prop := ∃ j, j < 9 ∧ j ≠ i ∧ 128 ≤ (t.getD j 0).toNat
theorem isLb_low {x : List UInt8} (h : isLb x = true) {j : Nat} (hj : j < 9) : (x.getD j 0).toNat < 128 := by
  simp only [isLb, Bool.and_eq_true, decide_eq_true_eq, List.all_eq_true] at h
  have := h.2.1 j (List.mem_range.2 hj)
  simp only [chOk, Bool.and_eq_true, decide_eq_true_eq] at this
  have h1 := this.1
  unfold sv at h1
  have hb : bv x j = ((x.getD j 0).toNat : Int) := rfl
  rw [hb] at h1
  split at h1
  · omega
  · split at h1
    · omega
    · exact absurd h1 (by decide)
def outsN (t : List UInt8) (vs : List Nat) : List (List UInt8) := vs.flatMap fun i => lettersL.map (rep t i)
theorem outsN_snoc (t : List UInt8) (vs : List Nat) (p : Nat) : outsN t (vs ++ [p]) = outsN t vs ++ lettersL.map (rep t p) := by
  unfold outsN
  rw [List.flatMap_append]
  simp
theorem outsN_len (t : List UInt8) (vs : List Nat) : (outsN t vs).length = 36 * vs.length := by
  induction vs with
  | nil => rfl
  | cons v vs ih =>
    have e : outsN t (v :: vs) = lettersL.map (rep t v) ++ outsN t vs := rfl
    rw [e, List.length_append, ih, List.length_map, List.length_cons]
    have : lettersL.length = 36 := rfl
    omega
theorem near_eq {t : List UInt8} (h9 : t.length = 9) {vs : List Nat} (h1 : ∀ i ∈ vs, i < 9) (h2 : ∀ i, i < 9 → i ∈ vs ∨ hid t i) : lbsOf t (outsN t vs) = lbsOf t (nearAll t) := by
  obtain ⟨f1, f2, _⟩ := lbsOf_facts t (outsN t vs)
  obtain ⟨g1, g2, _⟩ := lbsOf_facts t (nearAll t)
  refine ss_ext f1 g1 fun x => ?_
  rw [f2 x, g2 x]
  constructor
  · rintro ⟨hx, h⟩
    refine ⟨?_, h⟩
    obtain ⟨i, hi, hx⟩ := List.mem_flatMap.1 hx
    exact List.mem_flatMap.2 ⟨i, List.mem_range.2 (h1 i hi), hx⟩
  · rintro ⟨hx, hne, hlb⟩
    refine ⟨?_, hne, hlb⟩
    obtain ⟨i, hi, hx⟩ := List.mem_flatMap.1 hx
    have hi := List.mem_range.1 hi
    rcases h2 i hi with h | ⟨j, hj, hji, hhi⟩
    · exact List.mem_flatMap.2 ⟨i, h, hx⟩
    · exfalso
      obtain ⟨c, _, rfl⟩ := List.mem_map.1 hx
      have hl := isLb_low hlb hj
      rw [rep_eq (by omega)] at hl
      rw [List.getD_eq_getElem?_getD, List.getElem?_set_ne (fun e => hji e.symm), ← List.getD_eq_getElem?_getD] at hl
      omega

def lettersI : List Int := [48, 49, 50, 51, 52, 53, 54, 55, 56, 57, 97, 98, 99, 100, 101, 102, 103, 104, 105, 106, 107, 108, 109, 110, 111, 112, 113, 114, 115, 116, 117, 118, 119, 120, 121, 122]
theorem lettersI_eq : lettersI = lettersL.map fun c => (c.toNat : Int) := by decide

noncomputable def X29 : Fx := ⟨Tryz.prog, tys, 29, Tryz.f29, [0]⟩
theorem X29_ok : X29.Ok := ⟨Tryz.func29, tys_ok⟩
theorem implNear_ct (t : List UInt8) (hlen : t.length ≤ 1048576) : CtA ambS Tryz.prog 29 [str t] (.tup [.own 1 false ((nrRes t).1.map str), i64 (nrRes t).2]) [] := by
  refine CtA.intro ambS X29 X29_ok rfl (by kernel_rfl) rfl rfl fun g hA hg => ?_
  repeat (refine Run.go rfl ?_)
  refine Run.cond rfl (fun h => ?_) (fun h => ?_)
  · have h9 : t.length ≠ 9 := by
      have h2 : ((((⟨t.toArray⟩ : ByteArray).size : Nat) : Int) != 9) = true := h
      rw [bsz] at h2
      intro e
      rw [e] at h2
      simp at h2
    have hr : nrRes t = ([], 5) := by rw [nrRes, if_neg h9]
    rw [hr] at hg
    repeat (refine Run.go rfl ?_)
    refine Run.nilSlot 2 1 false rfl ?_
    exact Run.ret hg rfl rfl
  have h9 : t.length = 9 := by
    have h2 : ((((⟨t.toArray⟩ : ByteArray).size : Nat) : Int) != 9) = false := h
    rw [bsz] at h2
    simp at h2
    omega
  have hr : nrRes t = (lbsOf t (nearAll t), 0) := by rw [nrRes, if_pos h9]
  rw [hr] at hg
  repeat (refine Run.go rfl ?_)
  refine Run.rangeS t rfl rfl rfl rfl Tryz.underlying9 rfl rfl rfl fun b => ?_
  repeat (refine Run.go rfl ?_)
  refine Run.nilSlot 4 1 false rfl ?_
  refine Run.loop (fun q : Nat × List Nat => ⟨[(0, str t), (4, .own 1 false ((outsN t q.2).map str)), (12, .lit (.pointer (some ⟨b, 0, none⟩)))], [((12, 0), .mem [(b, .stringIter ⟨t.toArray⟩ q.1)])]⟩)
    (fun q => (∀ i ∈ q.2, i < 9) ∧ (∀ i, i < 9 → i < q.1 → i ∈ q.2 ∨ hid t i) ∧ q.2.length ≤ 9 ∧ q.2.length ≤ q.1) (fun q => 9 - q.1) (0, []) ⟨by simp, by intro i _ h; simp at h, by simp, by simp⟩ ?_ ?_
  · exact St.Le.mk' ⟨rfl, rfl, rfl, trivial⟩ ⟨rfl, trivial⟩
  rintro ⟨p, vs⟩ ⟨hv1, hv2, hvl, hvp⟩ IH
  simp only at hv1 hv2 hvl hvp IH
  repeat (refine Run.go rfl ?_)
  by_cases hp : p < t.length
  · have hp9 : p < 9 := by omega
    obtain ⟨hw1, hw2⟩ := decode_w ⟨t.toArray⟩ p
    have hol := outsN_len t vs
    refine Run.nextS (12, 0) t rfl rfl rfl rfl rfl rfl hp rfl ?_
    obtain ⟨p', hp'⟩ : ∃ p', p' = p + (Utf8.decode ⟨t.toArray⟩ p).2 := ⟨_, rfl⟩
    have hnext : ∀ i, i < 9 → i < p' → i ∈ vs ++ [p] ∨ hid t i := by
      intro i hi hip
      by_cases h1 : i < p
      · rcases hv2 i hi h1 with h | h
        · exact .inl (by simp [h])
        · exact .inr h
      · by_cases h2 : i = p
        · exact .inl (by simp [h2])
        · right
          refine ⟨p, hp9, fun e => h2 e.symm, ?_⟩
          have h3 := hw2 (by omega)
          have e : (⟨t.toArray⟩ : ByteArray).get! (p + 0) = t.getD p 0 := by
            show (t.toArray)[p]! = _
            rw [getElem!_pos _ p (by simpa using hp), List.getD_eq_getElem?_getD, List.getElem?_eq_getElem hp]
            simp
          rw [e] at h3
          exact h3
    rw [← hp']
    clear hw2 hv2
    generalize (Utf8.decode ⟨t.toArray⟩ p).1 = c0
    have w1 : IntKind.i64.wrap ((p : Int) + 1) = ((p + 1 : Nat) : Int) := by rw [wrap_i64 (by omega) (by omega)]; omega
    repeat (refine Run.go rfl ?_)
    refine Run.cond rfl (fun _ => ?_) (fun h => by cases h)
    repeat (refine Run.go rfl ?_)
    refine Run.buildSlice (cs := [u8 48, u8 49, u8 50, u8 51, u8 52, u8 53, u8 54, u8 55, u8 56, u8 57, u8 97, u8 98, u8 99, u8 100, u8 101, u8 102, u8 103, u8 104, u8 105, u8 106, u8 107, u8 108, u8 109, u8 110, u8 111, u8 112, u8 113, u8 114, u8 115, u8 116, u8 117, u8 118, u8 119, u8 120, u8 121, u8 122]) [u8 48, u8 49, u8 50, u8 51, u8 52, u8 53, u8 54, u8 55, u8 56, u8 57, u8 97, u8 98, u8 99, u8 100, u8 101, u8 102, u8 103, u8 104, u8 105, u8 106, u8 107, u8 108, u8 109, u8 110, u8 111, u8 112, u8 113, u8 114, u8 115, u8 116, u8 117, u8 118, u8 119, u8 120, u8 121, u8 122] rfl rfl rfl rfl rfl rfl rfl rfl (by kernel_rfl) (by kernel_rfl) (by kernel_rfl) (by kernel_rfl) (by kernel_rfl) rfl ?_
    refine Run.s2s lettersI rfl rfl rfl rfl rfl rfl rfl (by decide) rfl ?_
    repeat (refine Run.go rfl ?_)
    have hll : lettersL.length = 36 := rfl
    have hli : lettersI.length = 36 := rfl
    generalize hO : outsN t vs = O0 at hol
    refine Run.loop (fun k : Nat => ⟨[(0, str t), (4, .own 1 false ((O0 ++ (lettersL.take k).map (rep t p)).map str)), (5, i64 p), (12, .lit (.pointer (some ⟨b, 0, none⟩))), (17, .ro 1 false (lettersI.map u8)), (18, i64 36), (19, i64 k)], [((12, 0), .mem [(b, .stringIter ⟨t.toArray⟩ p')])]⟩)
      (fun k => k ≤ 36) (fun k => 36 - k) 0 (by omega) ?_ ?_
    · refine St.Le.mk' ⟨rfl, ?_, rfl, rfl, rfl, rfl, rfl, trivial⟩ ⟨rfl, trivial⟩
      show AV.own _ _ _ = AV.own _ _ _
      rw [← hO]
      simp
    intro k hk IH2
    repeat (refine Run.go rfl ?_)
    refine Run.cond rfl (fun h => ?_) (fun h => ?_)
    · have hlk : k < 36 := by
        have h2 : decide ((k : Int) < 36) = true := h
        have := of_decide_eq_true h2
        omega
      clear h
      have hlk2 : k < lettersL.length := hlk
      have hci : (lettersI.map u8)[k]? = some (u8 (lettersL[k].toNat : Int)) := by
        rw [lettersI_eq, List.getElem?_map, List.getElem?_map, List.getElem?_eq_getElem hlk2]
        rfl
      have hbc : bys [(lettersL[k].toNat : Int)] = [lettersL[k]] := by
        simp [bys]
      have htk : (lettersL.take (k + 1)).map (rep t p) = (lettersL.take k).map (rep t p) ++ [rep t p lettersL[k]] := by
        rw [List.take_succ_eq_append_getElem hlk2, List.map_append]
        rfl
      have hrep : t.take p ++ bys [(lettersL[k].toNat : Int)] ++ t.drop (p + 1) = rep t p lettersL[k] := by rw [hbc]; rfl
      have htl : ((lettersL.take k).map (rep t p)).length = k := by rw [List.length_map, List.length_take]; omega
      generalize rep t p lettersL[k] = x at htk hrep
      generalize lettersL[k] = c at hci hbc hrep
      obtain ⟨O, hOO⟩ : ∃ O, O = O0 ++ (lettersL.take k).map (rep t p) := ⟨_, rfl⟩
      have hOl : O.length ≤ 1000 := by rw [hOO, List.length_append]; omega
      rw [← hOO]
      repeat (refine Run.go rfl ?_)
      refine Run.val rfl rfl rfl (ValOk.idx (u8 (c.toNat : Int)) rfl rfl rfl rfl rfl (by omega) hci) rfl ?_
      repeat (refine Run.go rfl ?_)
      refine Run.unpack 4 rfl rfl ?_
      refine Run.drawI (fun D => ⟨[(0, str t), (5, i64 p), (7, u8 (c.toNat : Int)), (12, .lit (.pointer (some ⟨b, 0, none⟩))), (17, .ro 1 false (lettersI.map u8)), (18, i64 36), (19, i64 k), (23, bif D 0 then .vec (4, 0) 0 (O.map str).length else .top), (24, bif D 1 then str t else .top), (25, bif D 2 then i64 p else .top), (26, bif D 3 then str (t.take p) else .top), (27, bif D 4 then u8 (c.toNat : Int) else .top), (28, bif D 5 then .own 1 true [u8 (c.toNat : Int)] else .top), (29, bif D 6 then str (bys [(c.toNat : Int)]) else .top), (30, bif D 7 then str (t.take p ++ bys [(c.toNat : Int)]) else .top), (31, bif D 8 then str t else .top), (32, bif D 9 then i64 p else .top), (33, bif D 10 then i64 ((p + 1 : Nat) : Int) else .top), (34, bif D 11 then str (t.drop (p + 1)) else .top), (35, bif D 12 then str x else .top), (36, bif D 14 then .top else bif D 13 then .own 1 true [str x] else .top), (37, bif D 15 then .top else bif D 14 then .own 1 false (O.map str ++ [str x]) else .top), (4, bif D 15 then .own 1 false (O.map str ++ [str x]) else .vec (4, 0) 0 (O.map str).length)], [((12, 0), .mem [(b, .stringIter ⟨t.toArray⟩ p')]), ((4, 0), (bif D 14 then .gone else .vec 1 false (O.map str)))]⟩) (by decide +kernel) (by decide +kernel) ?_ ?_ fun k' => ⟨?_, ?_, ?_, ?_, ?_, ?_, ?_, ?_, ?_, ?_, ?_, ?_, ?_, ?_, ?_, ?_, trivial⟩
      · exact St.Le.mk' ⟨rfl, rfl, rfl, rfl, rfl, rfl, rfl, rfl, rfl, rfl, rfl, rfl, rfl, rfl, rfl, rfl, rfl, rfl, rfl, rfl, rfl, rfl, rfl, trivial⟩ ⟨rfl, rfl, trivial⟩
      rotate_left
      · intro D hid h0 hp hs rest hK
        obtain ⟨d14, d15, -⟩ : AllD D false [14, 15] := ideal_sub hs (by decide +kernel)
        simp only [d14, d15, h0, cond_true, cond_false]
        refine Run.go rfl ?_
        refine Run.le ?_ hK
        simp only [d14, d15, h0, Nat.reduceBEq, Bool.false_or, Bool.true_or, cond_true, cond_false]
        exact St.Le.mk' ⟨rfl, rfl, rfl, rfl, rfl, rfl, rfl, rfl, rfl, rfl, rfl, rfl, rfl, rfl, rfl, rfl, rfl, rfl, rfl, rfl, rfl, rfl, rfl, trivial⟩ ⟨rfl, rfl, trivial⟩
      · intro D hid h0 hp hs rest hK
        obtain ⟨d3, d15, -⟩ : AllD D false [3, 15] := ideal_sub hs (by decide +kernel)
        simp only [d3, d15, h0, cond_true, cond_false]
        refine Run.go rfl ?_
        refine Run.le ?_ hK
        simp only [d3, d15, h0, Nat.reduceBEq, Bool.false_or, Bool.true_or, cond_true, cond_false]
        exact St.Le.mk' ⟨rfl, rfl, rfl, rfl, rfl, rfl, rfl, rfl, rfl, rfl, rfl, rfl, rfl, rfl, rfl, rfl, rfl, rfl, rfl, rfl, rfl, rfl, rfl, trivial⟩ ⟨rfl, rfl, trivial⟩
      · intro D hid h0 hp hs rest hK
        obtain ⟨d3, d15, -⟩ : AllD D false [3, 15] := ideal_sub hs (by decide +kernel)
        simp only [d3, d15, h0, cond_true, cond_false]
        refine Run.go rfl ?_
        refine Run.le ?_ hK
        simp only [d3, d15, h0, Nat.reduceBEq, Bool.false_or, Bool.true_or, cond_true, cond_false]
        exact St.Le.mk' ⟨rfl, rfl, rfl, rfl, rfl, rfl, rfl, rfl, rfl, rfl, rfl, rfl, rfl, rfl, rfl, rfl, rfl, rfl, rfl, rfl, rfl, rfl, rfl, trivial⟩ ⟨rfl, rfl, trivial⟩
      · intro D hid h0 hp hs rest hK
        obtain ⟨d1, d2, -⟩ : AllD D true [1, 2] := ideal_sub hp (by decide +kernel)
        obtain ⟨d7, d15, -⟩ : AllD D false [7, 15] := ideal_sub hs (by decide +kernel)
        simp only [d1, d2, d7, d15, h0, cond_true, cond_false]
        refine Run.val rfl rfl rfl (ValOk.scut (s := (0 : Int)) (h := (p : Int)) t (t.take p) rfl rfl rfl rfl rfl rfl (by omega) (by omega) (by omega) (by simp only [Int.toNat_natCast, Int.toNat_zero, List.drop_zero])) rfl ?_
        refine Run.le ?_ hK
        simp only [d1, d2, d7, d15, h0, Nat.reduceBEq, Bool.false_or, Bool.true_or, cond_true, cond_false]
        exact St.Le.mk' ⟨rfl, rfl, rfl, rfl, rfl, rfl, rfl, rfl, rfl, rfl, rfl, rfl, rfl, rfl, rfl, rfl, rfl, rfl, rfl, rfl, rfl, rfl, rfl, trivial⟩ ⟨rfl, rfl, trivial⟩
      · intro D hid h0 hp hs rest hK
        obtain ⟨d5, d15, -⟩ : AllD D false [5, 15] := ideal_sub hs (by decide +kernel)
        simp only [d5, d15, h0, cond_true, cond_false]
        refine Run.go rfl ?_
        refine Run.le ?_ hK
        simp only [d5, d15, h0, Nat.reduceBEq, Bool.false_or, Bool.true_or, cond_true, cond_false]
        exact St.Le.mk' ⟨rfl, rfl, rfl, rfl, rfl, rfl, rfl, rfl, rfl, rfl, rfl, rfl, rfl, rfl, rfl, rfl, rfl, rfl, rfl, rfl, rfl, rfl, rfl, trivial⟩ ⟨rfl, rfl, trivial⟩
      · intro D hid h0 hp hs rest hK
        obtain ⟨d4, -⟩ : AllD D true [4] := ideal_sub hp (by decide +kernel)
        obtain ⟨d6, d15, -⟩ : AllD D false [6, 15] := ideal_sub hs (by decide +kernel)
        simp only [d4, d6, d15, h0, cond_true, cond_false]
        refine Run.buildSlice [u8 (c.toNat : Int)] rfl rfl rfl rfl rfl rfl rfl rfl rfl rfl rfl rfl rfl rfl ?_
        refine Run.le ?_ hK
        simp only [d4, d6, d15, h0, Nat.reduceBEq, Bool.false_or, Bool.true_or, cond_true, cond_false]
        exact St.Le.mk' ⟨rfl, rfl, rfl, rfl, rfl, rfl, rfl, rfl, rfl, rfl, rfl, rfl, rfl, rfl, rfl, rfl, rfl, rfl, rfl, rfl, rfl, rfl, rfl, trivial⟩ ⟨rfl, rfl, trivial⟩
      · intro D hid h0 hp hs rest hK
        obtain ⟨d5, -⟩ : AllD D true [5] := ideal_sub hp (by decide +kernel)
        obtain ⟨d7, d15, -⟩ : AllD D false [7, 15] := ideal_sub hs (by decide +kernel)
        simp only [d5, d7, d15, h0, cond_true, cond_false]
        refine Run.val rfl rfl rfl (ValOk.b2s (ex := true) [(c.toNat : Int)] rfl rfl rfl rfl rfl (.inl rfl)) rfl ?_
        refine Run.le ?_ hK
        simp only [d5, d7, d15, h0, Nat.reduceBEq, Bool.false_or, Bool.true_or, cond_true, cond_false]
        exact St.Le.mk' ⟨rfl, rfl, rfl, rfl, rfl, rfl, rfl, rfl, rfl, rfl, rfl, rfl, rfl, rfl, rfl, rfl, rfl, rfl, rfl, rfl, rfl, rfl, rfl, trivial⟩ ⟨rfl, rfl, trivial⟩
      · intro D hid h0 hp hs rest hK
        obtain ⟨d3, d6, -⟩ : AllD D true [3, 6] := ideal_sub hp (by decide +kernel)
        obtain ⟨d12, d15, -⟩ : AllD D false [12, 15] := ideal_sub hs (by decide +kernel)
        simp only [d3, d6, d12, d15, h0, cond_true, cond_false]
        refine Run.val rfl rfl rfl (ValOk.scat (t.take p) (bys [(c.toNat : Int)]) rfl rfl rfl (by rw [hbc]; simp only [List.length_take, List.length_cons, List.length_nil]; omega)) rfl ?_
        refine Run.le ?_ hK
        simp only [d3, d6, d12, d15, h0, Nat.reduceBEq, Bool.false_or, Bool.true_or, cond_true, cond_false]
        exact St.Le.mk' ⟨rfl, rfl, rfl, rfl, rfl, rfl, rfl, rfl, rfl, rfl, rfl, rfl, rfl, rfl, rfl, rfl, rfl, rfl, rfl, rfl, rfl, rfl, rfl, trivial⟩ ⟨rfl, rfl, trivial⟩
      · intro D hid h0 hp hs rest hK
        obtain ⟨d11, d15, -⟩ : AllD D false [11, 15] := ideal_sub hs (by decide +kernel)
        simp only [d11, d15, h0, cond_true, cond_false]
        refine Run.go rfl ?_
        refine Run.le ?_ hK
        simp only [d11, d15, h0, Nat.reduceBEq, Bool.false_or, Bool.true_or, cond_true, cond_false]
        exact St.Le.mk' ⟨rfl, rfl, rfl, rfl, rfl, rfl, rfl, rfl, rfl, rfl, rfl, rfl, rfl, rfl, rfl, rfl, rfl, rfl, rfl, rfl, rfl, rfl, rfl, trivial⟩ ⟨rfl, rfl, trivial⟩
      · intro D hid h0 hp hs rest hK
        obtain ⟨d10, d15, -⟩ : AllD D false [10, 15] := ideal_sub hs (by decide +kernel)
        simp only [d10, d15, h0, cond_true, cond_false]
        refine Run.go rfl ?_
        refine Run.le ?_ hK
        simp only [d10, d15, h0, Nat.reduceBEq, Bool.false_or, Bool.true_or, cond_true, cond_false]
        exact St.Le.mk' ⟨rfl, rfl, rfl, rfl, rfl, rfl, rfl, rfl, rfl, rfl, rfl, rfl, rfl, rfl, rfl, rfl, rfl, rfl, rfl, rfl, rfl, rfl, rfl, trivial⟩ ⟨rfl, rfl, trivial⟩
      · intro D hid h0 hp hs rest hK
        obtain ⟨d9, -⟩ : AllD D true [9] := ideal_sub hp (by decide +kernel)
        obtain ⟨d11, d15, -⟩ : AllD D false [11, 15] := ideal_sub hs (by decide +kernel)
        simp only [d9, d11, d15, h0, cond_true, cond_false]
        refine Run.go rfl ?_
        rw [w1]
        refine Run.le ?_ hK
        simp only [d9, d11, d15, h0, Nat.reduceBEq, Bool.false_or, Bool.true_or, cond_true, cond_false]
        exact St.Le.mk' ⟨rfl, rfl, rfl, rfl, rfl, rfl, rfl, rfl, rfl, rfl, rfl, rfl, rfl, rfl, rfl, rfl, rfl, rfl, rfl, rfl, rfl, rfl, rfl, trivial⟩ ⟨rfl, rfl, trivial⟩
      · intro D hid h0 hp hs rest hK
        obtain ⟨d8, d10, -⟩ : AllD D true [8, 10] := ideal_sub hp (by decide +kernel)
        obtain ⟨d12, d15, -⟩ : AllD D false [12, 15] := ideal_sub hs (by decide +kernel)
        simp only [d8, d10, d12, d15, h0, cond_true, cond_false]
        refine Run.val rfl rfl rfl (ValOk.scut (s := ((p + 1 : Nat) : Int)) (h := (t.length : Int)) t (t.drop (p + 1)) rfl rfl rfl rfl rfl rfl (by omega) (by omega) (by omega) (by simp only [Int.toNat_natCast, List.take_length])) rfl ?_
        refine Run.le ?_ hK
        simp only [d8, d10, d12, d15, h0, Nat.reduceBEq, Bool.false_or, Bool.true_or, cond_true, cond_false]
        exact St.Le.mk' ⟨rfl, rfl, rfl, rfl, rfl, rfl, rfl, rfl, rfl, rfl, rfl, rfl, rfl, rfl, rfl, rfl, rfl, rfl, rfl, rfl, rfl, rfl, rfl, trivial⟩ ⟨rfl, rfl, trivial⟩
      · intro D hid h0 hp hs rest hK
        obtain ⟨d7, d11, -⟩ : AllD D true [7, 11] := ideal_sub hp (by decide +kernel)
        obtain ⟨d13, d15, -⟩ : AllD D false [13, 15] := ideal_sub hs (by decide +kernel)
        simp only [d7, d11, d13, d15, h0, cond_true, cond_false]
        refine Run.val rfl rfl rfl (ValOk.scat (t.take p ++ bys [(c.toNat : Int)]) (t.drop (p + 1)) rfl rfl rfl (by rw [hbc]; simp only [List.length_append, List.length_take, List.length_drop, List.length_cons, List.length_nil]; omega)) rfl ?_
        rw [hrep]
        refine Run.le ?_ hK
        simp only [d7, d11, d13, d15, h0, Nat.reduceBEq, Bool.false_or, Bool.true_or, cond_true, cond_false]
        exact St.Le.mk' ⟨rfl, rfl, rfl, rfl, rfl, rfl, rfl, rfl, rfl, rfl, rfl, rfl, rfl, rfl, rfl, rfl, rfl, rfl, rfl, rfl, rfl, rfl, rfl, trivial⟩ ⟨rfl, rfl, trivial⟩
      · intro D hid h0 hp hs rest hK
        obtain ⟨d12, -⟩ : AllD D true [12] := ideal_sub hp (by decide +kernel)
        obtain ⟨d14, d15, -⟩ : AllD D false [14, 15] := ideal_sub hs (by decide +kernel)
        simp only [d12, d14, d15, h0, cond_true, cond_false]
        refine Run.buildSlice [str x] rfl rfl rfl rfl rfl rfl rfl rfl rfl rfl rfl rfl rfl rfl ?_
        refine Run.le ?_ hK
        simp only [d12, d14, d15, h0, Nat.reduceBEq, Bool.false_or, Bool.true_or, cond_true, cond_false]
        exact St.Le.mk' ⟨rfl, rfl, rfl, rfl, rfl, rfl, rfl, rfl, rfl, rfl, rfl, rfl, rfl, rfl, rfl, rfl, rfl, rfl, rfl, rfl, rfl, rfl, rfl, trivial⟩ ⟨rfl, rfl, trivial⟩
      · intro D hid h0 hp hs rest hK
        obtain ⟨d0, d13, -⟩ : AllD D true [0, 13] := ideal_sub hp (by decide +kernel)
        obtain ⟨d15, -⟩ : AllD D false [15] := ideal_sub hs (by decide +kernel)
        simp only [d0, d13, d15, h0, cond_true, cond_false]
        refine Run.appendo rfl rfl rfl rfl rfl rfl rfl rfl rfl rfl rfl rfl rfl rfl (by show ((O.map str).length + 1) * 16 ≤ _; rw [List.length_map]; omega) (by simp [capMax]; omega) (by decide) rfl ?_
        refine Run.le ?_ hK
        simp only [d0, d13, d15, h0, Nat.reduceBEq, Bool.false_or, Bool.true_or, cond_true, cond_false]
        exact St.Le.mk' ⟨rfl, rfl, rfl, rfl, rfl, rfl, rfl, rfl, rfl, rfl, rfl, rfl, rfl, rfl, rfl, rfl, rfl, rfl, rfl, rfl, rfl, rfl, rfl, trivial⟩ ⟨rfl, rfl, trivial⟩
      · intro D hid h0 hp hs rest hK
        obtain ⟨d0, d1, d2, d3, d4, d5, d6, d7, d8, d9, d10, d11, d12, d13, d14, -⟩ : AllD D true [0, 1, 2, 3, 4, 5, 6, 7, 8, 9, 10, 11, 12, 13, 14] := ideal_sub hp (by decide +kernel)
        simp only [d0, d1, d2, d3, d4, d5, d6, d7, d8, d9, d10, d11, d12, d13, d14, h0, cond_true, cond_false]
        refine Run.go rfl ?_
        refine Run.le ?_ hK
        simp only [d0, d1, d2, d3, d4, d5, d6, d7, d8, d9, d10, d11, d12, d13, d14, h0, Nat.reduceBEq, Bool.false_or, Bool.true_or, cond_true, cond_false]
        exact St.Le.mk' ⟨rfl, rfl, rfl, rfl, rfl, rfl, rfl, rfl, rfl, rfl, rfl, rfl, rfl, rfl, rfl, rfl, rfl, rfl, rfl, rfl, rfl, rfl, rfl, trivial⟩ ⟨rfl, rfl, trivial⟩
      repeat (refine Run.go rfl ?_)
      refine Run.of (IH2 (k + 1) (by omega) (by omega)) ⟨rfl, ?_, rfl, rfl, rfl, rfl, ?_, trivial⟩ ⟨rfl, trivial⟩
      · show AV.own _ _ _ = AV.own _ _ _
        rw [htk, ← List.append_assoc, ← hOO, List.map_append]
        rfl
      · show i64 _ = i64 _
        rw [wrap_i64 (by omega) (by omega)]
        rfl
    · have hk36 : k = 36 := by
        have h2 : decide ((k : Int) < 36) = false := h
        have := of_decide_eq_false h2
        omega
      subst hk36
      repeat (refine Run.go rfl ?_)
      refine Run.of (IH (p', vs ++ [p]) ⟨?_, hnext, by simp only [List.length_append, List.length_cons, List.length_nil]; omega, by simp only [List.length_append, List.length_cons, List.length_nil]; omega⟩ (by simp only; omega)) ⟨rfl, ?_, rfl, trivial⟩ ⟨rfl, trivial⟩
      · intro i hi
        rcases List.mem_append.1 hi with h | h
        · exact hv1 i h
        · rw [List.mem_singleton.1 h]; exact hp9
      · show AV.own _ _ _ = AV.own _ _ _
        rw [outsN_snoc, hO]
        rfl
  · have hcov : lbsOf t (outsN t vs) = lbsOf t (nearAll t) := near_eq h9 hv1 fun i hi => hv2 i hi (by omega)
    have hol := outsN_len t vs
    have hlb := labelsOf_all_ct t (outsN t vs) false (by omega)
    rw [hcov] at hlb
    refine Run.nextEnd (12, 0) t rfl rfl rfl rfl rfl rfl hp rfl ?_
    repeat (refine Run.go rfl ?_)
    refine Run.cond rfl (fun h => by cases h) (fun _ => ?_)
    repeat (refine Run.go rfl ?_)
    refine Run.callgA (4, 0) rfl rfl rfl rfl rfl rfl rfl rfl rfl rfl rfl rfl (hlb.at hA) rfl ?_
    repeat (refine Run.go rfl ?_)
    exact Run.ret hg rfl rfl
end Go.Proofs.YtilomajfcjpmnaaGreatDoor
