/- Contracts of the program's functions, and what follows from them. -/
import Derived.Test.YtcfkdcjindhnjaaK55
set_option linter.unusedVariables false
set_option maxRecDepth 100000
set_option linter.unusedSimpArgs false
namespace Go.Proofs.Ytcfkdcjindhnjaa
open Go Go.Av

/-! A part of a list of numbers that is nearly sorted. -/

def Low (A : List Int) (a b : Nat) : Prop := a = 0 ∨ ∀ k, a ≤ k → k < b → A.getD (a - 1) 0 ≤ A.getD k 0
theorem Low.keep {A B : List Int} {a b : Nat} (h : Low A a b) (hp : PS a b A B) : Low B a b := by
  rcases h with h | h
  · exact .inl h
  · by_cases h0 : a = 0
    · exact .inl h0
    · refine .inr fun k h1 h2 => ?_
      rw [hp.out (by omega)]
      exact hp.all (P := fun x => A.getD (a - 1) 0 ≤ x) h k h1 h2
theorem ss_one (A : List Int) (a : Nat) : SS A a (a + 1) := by
  intro u v h1 h2 h3
  have : u = v := by omega
  subst this
  exact Int.le_refl _

noncomputable def X45 : Fx := ⟨Try.prog, tys, 45, Try.f45, [0, 1, 2]⟩
theorem X45_ok : X45.Ok := ⟨Try.func45, tys_ok⟩
set_option maxHeartbeats 4000000 in
theorem pins_ct (n : Nat) (A0 : List Int) (e : Bool) (a b : Nat) (hn : A0.length = n) (hn1 : n ≤ 1000) (hab : a < b) (hb : b ≤ n) (hlow : Low A0 a b) :
    CtE Try.prog 45 [.vec lid 0 n, i64 (a : Nat), i64 (b : Nat)] (.vec 1 e (A0.map i64)) (fun r : List Int × Bool => PS a b A0 r.1 ∧ (r.2 = true → SS r.1 a b)) (fun r => bo r.2) (fun r => .vec 1 e (r.1.map i64)) := by
  refine CtE.intro X45 X45_ok rfl (by kernel_rfl) rfl rfl (fun _ _ => rfl) (fun _ _ => rfl) rfl fun g v0 hg => ?_
  repeat (refine Run.go rfl ?_)
  refine Run.loop (fun z : Nat × Nat × List Int => ⟨[(0, .vec lid 0 n), (1, i64 (a : Nat)), (2, i64 (b : Nat)), (6, bo false), (7, i64 (z.2.1 : Nat)), (8, i64 (z.1 : Nat))], [(lid, .vec 1 e (z.2.2.map i64)), (lidT, .tie v0 lid)]⟩)
    (fun z => z.1 ≤ 5 ∧ a + 1 ≤ z.2.1 ∧ z.2.1 ≤ b ∧ PS a b A0 z.2.2 ∧ SS z.2.2 a z.2.1) (fun z => 5 - z.1) (0, a + 1, A0) ⟨by show 0 ≤ 5; omega, Nat.le_refl _, by show a + 1 ≤ b; omega, .refl, ss_one _ _⟩ ?_ ?_
  · refine St.Le.mk' ⟨rfl, rfl, rfl, rfl, ?_, rfl, trivial⟩ ⟨rfl, rfl, trivial⟩
    show i64 _ = i64 _
    rw [wI1 (by omega)]
  rintro ⟨c, i0, A⟩ ⟨hc5, hi1, hi2, hps, hss⟩ IH
  dsimp only at hc5 hi1 hi2 hps hss IH ⊢
  have hAl : A.length = n := by rw [hps.len, hn]
  repeat (refine Run.go rfl ?_)
  refine Run.cond rfl (fun h => ?_) (fun h => ?_)
  rotate_left
  · repeat (refine Run.go rfl ?_)
    exact Run.retE (A, false) ⟨hps, fun h => by cases h⟩ hg rfl rfl rfl rfl rfl rfl
  have hc : c < 5 := by have := of_decide_eq_true h; omega
  clear h
  repeat (refine Run.go rfl ?_)
  refine Run.loop (fun p : Nat => ⟨[(0, .vec lid 0 n), (1, i64 (a : Nat)), (2, i64 (b : Nat)), (6, bo false), (7, i64 (p + 1 : Nat)), (8, i64 (c : Nat))], [(lid, .vec 1 e (A.map i64)), (lidT, .tie v0 lid)]⟩)
    (fun p => a ≤ p ∧ p + 1 ≤ b ∧ SS A a (p + 1)) (fun p => b - p) (i0 - 1) ⟨by omega, by omega, by rw [show i0 - 1 + 1 = i0 by omega]; exact hss⟩ ?_ ?_
  · refine St.Le.mk' ⟨rfl, rfl, rfl, rfl, ?_, rfl, trivial⟩ ⟨rfl, rfl, trivial⟩
    show i64 _ = i64 _
    rw [show i0 - 1 + 1 = i0 by omega]
  clear hss hi1 hi2
  rintro p ⟨hp1, hp2, hss⟩ IH1
  have hwp := wD1 (q := p) (by omega)
  repeat (refine Run.go rfl ?_)
  refine Run.drawS ⟨[(0, .vec lid 0 n), (1, i64 (a : Nat)), (2, i64 (b : Nat)), (6, bo false), (7, i64 (p + 1 : Nat)), (8, i64 (c : Nat)), (32, bo (decide (p + 1 < b) && !decide (A.getD (p + 1) 0 < A.getD (p) 0)))], [(lid, .vec 1 e (A.map i64)), (lidT, .tie v0 lid)]⟩ rfl (by kernel_rfl) ?_ ?_
  · have := hn1
    refine Quiet.go rfl ?_
    refine Quiet.go rfl ?_
    refine Quiet.go rfl ?_
    refine Quiet.go rfl ?_
    refine Quiet.bool 20 rfl (fun h => ?_) (fun h => ?_)
    · have h0 : p + 1 < b := by have := of_decide_eq_true h; omega
      refine Quiet.go rfl ?_
      refine Quiet.go rfl ?_
      refine Quiet.val rfl rfl (ValOk.idxv rfl rfl rfl rfl rfl rfl (by omega) (by omega)) rfl ?_
      refine Quiet.val rfl rfl (ValOk.loadv (i64 (A.getD (p + 1) 0)) rfl rfl rfl rfl (iat (by omega)) rfl) rfl ?_
      refine Quiet.go rfl ?_
      refine Quiet.go rfl ?_
      refine Quiet.go rfl ?_
      rw [hwp]
      refine Quiet.val rfl rfl (ValOk.idxv rfl rfl rfl rfl rfl rfl (by omega) (by omega)) rfl ?_
      refine Quiet.val rfl rfl (ValOk.loadv (i64 (A.getD (p) 0)) rfl rfl rfl rfl (iat (by omega)) rfl) rfl ?_
      refine Quiet.cs rfl rfl rfl rfl rfl (lessI_ct (A.getD (p + 1) 0) (A.getD (p) 0)) rfl rfl ?_
      refine Quiet.go rfl ?_
      refine Quiet.go rfl ?_
      refine Quiet.nil (St.Le.mk' ⟨rfl, rfl, rfl, rfl, rfl, rfl, ?_, trivial⟩ ⟨rfl, rfl, trivial⟩)
      show bo (!decide (A.getD (p + 1) 0 < A.getD (p) 0)) = _
      rw [decide_eq_true h0, Bool.true_and]
    · have h0 : ¬ (p + 1 < b) := by have := of_decide_eq_false h; omega
      repeat (refine Quiet.go rfl ?_)
      refine Quiet.nil (St.Le.mk' ⟨rfl, rfl, rfl, rfl, rfl, rfl, ?_, trivial⟩ ⟨rfl, rfl, trivial⟩)
      show bo false = _
      rw [decide_eq_false h0, Bool.false_and]
  refine Run.cond rfl (fun h => ?_) (fun h => ?_)
  · have h : p + 1 < b ∧ ¬ A.getD (p + 1) 0 < A.getD p 0 := by simpa using h
    repeat (refine Run.go rfl ?_)
    refine Run.of (IH1 (p + 1) ⟨by omega, by omega, fun u v h1 h2 h3 => ?_⟩ (by omega)) ⟨rfl, rfl, rfl, rfl, ?_, rfl, trivial⟩ ⟨rfl, rfl, trivial⟩
    · by_cases hv : v = p + 1
      · subst hv
        by_cases hu : u = p + 1
        · subst hu; exact Int.le_refl _
        · have := hss u p h1 (by omega) (by omega)
          have := h.2
          omega
      · exact hss u v h1 h2 (by omega)
    · show i64 _ = i64 _
      rw [wI1 (by omega)]
  clear IH1
  have hnp : ¬ (p + 1 < b ∧ ¬ A.getD (p + 1) 0 < A.getD p 0) := by simpa using h
  clear h
  repeat (refine Run.go rfl ?_)
  refine Run.cond rfl (fun h => ?_) (fun h => ?_)
  · have hpb : p + 1 = b := by
      have h : (((p + 1 : Nat) : Int) == ((b : Nat) : Int)) = true := h
      have := eq_of_beq h
      omega
    subst hpb
    repeat (refine Run.go rfl ?_)
    exact Run.retE (A, true) ⟨hps, fun _ => hss⟩ hg rfl rfl rfl rfl rfl rfl
  have hpb : p + 1 < b := by
    have h : (((p + 1 : Nat) : Int) == ((b : Nat) : Int)) = false := h
    have := ne_of_beq_false h
    omega
  clear h hnp
  repeat (refine Run.go rfl ?_)
  refine Run.cond rfl (fun h => ?_) (fun h => ?_)
  · repeat (refine Run.go rfl ?_)
    exact Run.retE (A, false) ⟨hps, fun h => by cases h⟩ hg rfl rfl rfl rfl rfl rfl
  clear h
  repeat (refine Run.go rfl ?_)
  have hyi := iat (A := A) (i := p + 1) (by omega)
  have hyj := iat (A := A) (i := p) (by omega)
  have hyj2 := iat2 (A := A) (i := p + 1) (j := p) (by omega) (by omega)
  refine Run.of (st' := ⟨[(0, .vec lid 0 n), (1, i64 (a : Nat)), (2, i64 (b : Nat)), (6, bo false), (7, i64 (p + 1 : Nat)), (8, i64 (c : Nat))], [(lid, .vec 1 e (A.map i64)), (lidT, .tie v0 lid)]⟩) ?_ ⟨rfl, rfl, rfl, rfl, rfl, rfl, trivial⟩ ⟨rfl, rfl, trivial⟩
  unfold Nxt
  refine Run.drawI (fun D => ⟨[(0, .vec lid 0 n), (1, i64 (a : Nat)), (2, i64 (b : Nat)), (6, bo false), (7, i64 (p + 1 : Nat)), (8, i64 (c : Nat)), (42, bif D 0 then .vec lid 0 n else .top), (43, bif D 1 then i64 ((p + 1 : Nat) : Int) else .top), (44, bif D 2 then .vec lid 0 n else .top), (45, bif D 3 then i64 ((p + 1 : Nat) : Int) else .top), (46, bif D 4 then i64 ((p : Nat) : Int) else .top), (47, bif D 5 then .vec lid 0 n else .top), (48, bif D 6 then i64 ((p + 1 : Nat) : Int) else .top), (49, bif D 7 then i64 ((p : Nat) : Int) else .top), (50, bif D 8 then .ep lid (0 + ((p : Nat) : Int).toNat) 0 else .top), (51, bif D 9 then i64 (A.getD (p) 0) else .top), (52, bif D 10 then .vec lid 0 n else .top), (53, bif D 11 then i64 ((p + 1 : Nat) : Int) else .top), (54, bif D 12 then .ep lid (0 + ((p + 1 : Nat) : Int).toNat) 0 else .top), (55, bif D 13 then i64 (A.getD (p + 1) 0) else .top), (56, bif D 14 then .ep lid (0 + ((p + 1 : Nat) : Int).toNat) 0 else .top), (57, bif D 16 then .ep lid (0 + ((p : Nat) : Int).toNat) 0 else .top)], [(lid, (bif D 17 then Ob.vec 1 e (((A.map i64).set (0 + ((p + 1 : Nat) : Int).toNat) (i64 (A.getD (p) 0))).set (0 + ((p : Nat) : Int).toNat) (i64 (A.getD (p + 1) 0))) else (bif D 15 then Ob.vec 1 e ((A.map i64).set (0 + ((p + 1 : Nat) : Int).toNat) (i64 (A.getD (p) 0))) else Ob.vec 1 e (A.map i64)))), (lidT, Ob.tie v0 lid)]⟩) (by decide +kernel) (by decide +kernel) ?_ ?_ fun k' => ⟨?_, ?_, ?_, ?_, ?_, ?_, ?_, ?_, ?_, ?_, ?_, ?_, ?_, ?_, ?_, ?_, ?_, ?_, trivial⟩
  · exact St.Le.mk' ⟨rfl, rfl, rfl, rfl, rfl, rfl, rfl, rfl, rfl, rfl, rfl, rfl, rfl, rfl, rfl, rfl, rfl, rfl, rfl, rfl, rfl, rfl, trivial⟩ ⟨rfl, rfl, trivial⟩
  rotate_left
  · intro D hid h0 hp hs rest hK
    obtain ⟨d14, d15, d16, d17, -⟩ : AllD D false [14, 15, 16, 17] := ideal_sub hs (by decide +kernel)
    simp only [d14, d15, d16, d17, h0, cond_true, cond_false]
    refine Run.go rfl ?_
    refine Run.le ?_ hK
    simp only [d14, d15, d16, d17, h0, Nat.reduceBEq, Bool.false_or, Bool.true_or, cond_true, cond_false]
    exact St.Le.mk' ⟨rfl, rfl, rfl, rfl, rfl, rfl, rfl, rfl, rfl, rfl, rfl, rfl, rfl, rfl, rfl, rfl, rfl, rfl, rfl, rfl, rfl, rfl, trivial⟩ ⟨rfl, rfl, trivial⟩
  · intro D hid h0 hp hs rest hK
    obtain ⟨d14, d15, d16, d17, -⟩ : AllD D false [14, 15, 16, 17] := ideal_sub hs (by decide +kernel)
    simp only [d14, d15, d16, d17, h0, cond_true, cond_false]
    refine Run.go rfl ?_
    refine Run.le ?_ hK
    simp only [d14, d15, d16, d17, h0, Nat.reduceBEq, Bool.false_or, Bool.true_or, cond_true, cond_false]
    exact St.Le.mk' ⟨rfl, rfl, rfl, rfl, rfl, rfl, rfl, rfl, rfl, rfl, rfl, rfl, rfl, rfl, rfl, rfl, rfl, rfl, rfl, rfl, rfl, rfl, trivial⟩ ⟨rfl, rfl, trivial⟩
  · intro D hid h0 hp hs rest hK
    obtain ⟨d16, d17, -⟩ : AllD D false [16, 17] := ideal_sub hs (by decide +kernel)
    simp only [d16, d17, h0, cond_true, cond_false]
    refine Run.go rfl ?_
    refine Run.le ?_ hK
    simp only [d16, d17, h0, Nat.reduceBEq, Bool.false_or, Bool.true_or, cond_true, cond_false]
    exact St.Le.mk' ⟨rfl, rfl, rfl, rfl, rfl, rfl, rfl, rfl, rfl, rfl, rfl, rfl, rfl, rfl, rfl, rfl, rfl, rfl, rfl, rfl, rfl, rfl, trivial⟩ ⟨rfl, rfl, trivial⟩
  · intro D hid h0 hp hs rest hK
    obtain ⟨d4, d16, d17, -⟩ : AllD D false [4, 16, 17] := ideal_sub hs (by decide +kernel)
    simp only [d4, d16, d17, h0, cond_true, cond_false]
    refine Run.go rfl ?_
    refine Run.le ?_ hK
    simp only [d4, d16, d17, h0, Nat.reduceBEq, Bool.false_or, Bool.true_or, cond_true, cond_false]
    exact St.Le.mk' ⟨rfl, rfl, rfl, rfl, rfl, rfl, rfl, rfl, rfl, rfl, rfl, rfl, rfl, rfl, rfl, rfl, rfl, rfl, rfl, rfl, rfl, rfl, trivial⟩ ⟨rfl, rfl, trivial⟩
  · intro D hid h0 hp hs rest hK
    obtain ⟨d3, -⟩ : AllD D true [3] := ideal_sub hp (by decide +kernel)
    obtain ⟨d16, d17, -⟩ : AllD D false [16, 17] := ideal_sub hs (by decide +kernel)
    simp only [d3, d16, d17, h0, cond_true, cond_false]
    refine Run.go rfl ?_
    rw [hwp]
    refine Run.le ?_ hK
    simp only [d3, d16, d17, h0, Nat.reduceBEq, Bool.false_or, Bool.true_or, cond_true, cond_false]
    exact St.Le.mk' ⟨rfl, rfl, rfl, rfl, rfl, rfl, rfl, rfl, rfl, rfl, rfl, rfl, rfl, rfl, rfl, rfl, rfl, rfl, rfl, rfl, rfl, rfl, trivial⟩ ⟨rfl, rfl, trivial⟩
  · intro D hid h0 hp hs rest hK
    obtain ⟨d8, d14, d15, d16, d17, -⟩ : AllD D false [8, 14, 15, 16, 17] := ideal_sub hs (by decide +kernel)
    simp only [d8, d14, d15, d16, d17, h0, cond_true, cond_false]
    refine Run.go rfl ?_
    refine Run.le ?_ hK
    simp only [d8, d14, d15, d16, d17, h0, Nat.reduceBEq, Bool.false_or, Bool.true_or, cond_true, cond_false]
    exact St.Le.mk' ⟨rfl, rfl, rfl, rfl, rfl, rfl, rfl, rfl, rfl, rfl, rfl, rfl, rfl, rfl, rfl, rfl, rfl, rfl, rfl, rfl, rfl, rfl, trivial⟩ ⟨rfl, rfl, trivial⟩
  · intro D hid h0 hp hs rest hK
    obtain ⟨d7, d14, d15, d16, d17, -⟩ : AllD D false [7, 14, 15, 16, 17] := ideal_sub hs (by decide +kernel)
    simp only [d7, d14, d15, d16, d17, h0, cond_true, cond_false]
    refine Run.go rfl ?_
    refine Run.le ?_ hK
    simp only [d7, d14, d15, d16, d17, h0, Nat.reduceBEq, Bool.false_or, Bool.true_or, cond_true, cond_false]
    exact St.Le.mk' ⟨rfl, rfl, rfl, rfl, rfl, rfl, rfl, rfl, rfl, rfl, rfl, rfl, rfl, rfl, rfl, rfl, rfl, rfl, rfl, rfl, rfl, rfl, trivial⟩ ⟨rfl, rfl, trivial⟩
  · intro D hid h0 hp hs rest hK
    obtain ⟨d6, -⟩ : AllD D true [6] := ideal_sub hp (by decide +kernel)
    obtain ⟨d8, d14, d15, d16, d17, -⟩ : AllD D false [8, 14, 15, 16, 17] := ideal_sub hs (by decide +kernel)
    simp only [d6, d8, d14, d15, d16, d17, h0, cond_true, cond_false]
    refine Run.go rfl ?_
    rw [hwp]
    refine Run.le ?_ hK
    simp only [d6, d8, d14, d15, d16, d17, h0, Nat.reduceBEq, Bool.false_or, Bool.true_or, cond_true, cond_false]
    exact St.Le.mk' ⟨rfl, rfl, rfl, rfl, rfl, rfl, rfl, rfl, rfl, rfl, rfl, rfl, rfl, rfl, rfl, rfl, rfl, rfl, rfl, rfl, rfl, rfl, trivial⟩ ⟨rfl, rfl, trivial⟩
  · intro D hid h0 hp hs rest hK
    obtain ⟨d5, d7, -⟩ : AllD D true [5, 7] := ideal_sub hp (by decide +kernel)
    obtain ⟨d9, d14, d15, d16, d17, -⟩ : AllD D false [9, 14, 15, 16, 17] := ideal_sub hs (by decide +kernel)
    simp only [d5, d7, d9, d14, d15, d16, d17, h0, cond_true, cond_false]
    refine Run.val rfl rfl rfl (ValOk.idxv rfl rfl rfl rfl rfl rfl (by omega) (by omega)) rfl ?_
    refine Run.le ?_ hK
    simp only [d5, d7, d9, d14, d15, d16, d17, h0, Nat.reduceBEq, Bool.false_or, Bool.true_or, cond_true, cond_false]
    exact St.Le.mk' ⟨rfl, rfl, rfl, rfl, rfl, rfl, rfl, rfl, rfl, rfl, rfl, rfl, rfl, rfl, rfl, rfl, rfl, rfl, rfl, rfl, rfl, rfl, trivial⟩ ⟨rfl, rfl, trivial⟩
  · intro D hid h0 hp hs rest hK
    obtain ⟨d8, -⟩ : AllD D true [8] := ideal_sub hp (by decide +kernel)
    obtain ⟨d14, d15, d16, d17, -⟩ : AllD D false [14, 15, 16, 17] := ideal_sub hs (by decide +kernel)
    simp only [d8, d14, d15, d16, d17, h0, cond_true, cond_false]
    refine Run.val rfl rfl rfl (ValOk.loadv (i64 (A.getD (p) 0)) rfl rfl rfl rfl hyj rfl) rfl ?_
    refine Run.le ?_ hK
    simp only [d8, d14, d15, d16, d17, h0, Nat.reduceBEq, Bool.false_or, Bool.true_or, cond_true, cond_false]
    exact St.Le.mk' ⟨rfl, rfl, rfl, rfl, rfl, rfl, rfl, rfl, rfl, rfl, rfl, rfl, rfl, rfl, rfl, rfl, rfl, rfl, rfl, rfl, rfl, rfl, trivial⟩ ⟨rfl, rfl, trivial⟩
  · intro D hid h0 hp hs rest hK
    obtain ⟨d12, d16, d17, -⟩ : AllD D false [12, 16, 17] := ideal_sub hs (by decide +kernel)
    simp only [d12, d16, d17, h0, cond_true, cond_false]
    refine Run.go rfl ?_
    refine Run.le ?_ hK
    simp only [d12, d16, d17, h0, Nat.reduceBEq, Bool.false_or, Bool.true_or, cond_true, cond_false]
    exact St.Le.mk' ⟨rfl, rfl, rfl, rfl, rfl, rfl, rfl, rfl, rfl, rfl, rfl, rfl, rfl, rfl, rfl, rfl, rfl, rfl, rfl, rfl, rfl, rfl, trivial⟩ ⟨rfl, rfl, trivial⟩
  · intro D hid h0 hp hs rest hK
    obtain ⟨d12, d16, d17, -⟩ : AllD D false [12, 16, 17] := ideal_sub hs (by decide +kernel)
    simp only [d12, d16, d17, h0, cond_true, cond_false]
    refine Run.go rfl ?_
    refine Run.le ?_ hK
    simp only [d12, d16, d17, h0, Nat.reduceBEq, Bool.false_or, Bool.true_or, cond_true, cond_false]
    exact St.Le.mk' ⟨rfl, rfl, rfl, rfl, rfl, rfl, rfl, rfl, rfl, rfl, rfl, rfl, rfl, rfl, rfl, rfl, rfl, rfl, rfl, rfl, rfl, rfl, trivial⟩ ⟨rfl, rfl, trivial⟩
  · intro D hid h0 hp hs rest hK
    obtain ⟨d10, d11, -⟩ : AllD D true [10, 11] := ideal_sub hp (by decide +kernel)
    obtain ⟨d13, d16, d17, -⟩ : AllD D false [13, 16, 17] := ideal_sub hs (by decide +kernel)
    have d15 : D 15 = false := ideal_no (i := 15) (j := 13) hid (by decide +kernel) d13
    simp only [d10, d11, d13, d16, d17, d15, h0, cond_true, cond_false]
    refine Run.val rfl rfl rfl (ValOk.idxv rfl rfl rfl rfl rfl rfl (by omega) (by omega)) rfl ?_
    refine Run.le ?_ hK
    simp only [d10, d11, d13, d16, d17, d15, h0, Nat.reduceBEq, Bool.false_or, Bool.true_or, cond_true, cond_false]
    exact St.Le.mk' ⟨rfl, rfl, rfl, rfl, rfl, rfl, rfl, rfl, rfl, rfl, rfl, rfl, rfl, rfl, rfl, rfl, rfl, rfl, rfl, rfl, rfl, rfl, trivial⟩ ⟨rfl, rfl, trivial⟩
  · intro D hid h0 hp hs rest hK
    obtain ⟨d12, -⟩ : AllD D true [12] := ideal_sub hp (by decide +kernel)
    obtain ⟨d14, d15, d16, d17, -⟩ : AllD D false [14, 15, 16, 17] := ideal_sub hs (by decide +kernel)
    simp only [d12, d14, d15, d16, d17, h0, cond_true, cond_false]
    refine Run.val rfl rfl rfl (ValOk.loadv (i64 (A.getD (p + 1) 0)) rfl rfl rfl rfl hyi rfl) rfl ?_
    refine Run.le ?_ hK
    simp only [d12, d14, d15, d16, d17, h0, Nat.reduceBEq, Bool.false_or, Bool.true_or, cond_true, cond_false]
    exact St.Le.mk' ⟨rfl, rfl, rfl, rfl, rfl, rfl, rfl, rfl, rfl, rfl, rfl, rfl, rfl, rfl, rfl, rfl, rfl, rfl, rfl, rfl, rfl, rfl, trivial⟩ ⟨rfl, rfl, trivial⟩
  · intro D hid h0 hp hs rest hK
    obtain ⟨d0, d1, d5, d6, d7, d8, d9, d13, -⟩ : AllD D true [0, 1, 5, 6, 7, 8, 9, 13] := ideal_sub hp (by decide +kernel)
    obtain ⟨d15, d16, d17, -⟩ : AllD D false [15, 16, 17] := ideal_sub hs (by decide +kernel)
    simp only [d0, d1, d5, d6, d7, d8, d9, d13, d15, d16, d17, h0, cond_true, cond_false]
    refine Run.val rfl rfl rfl (ValOk.idxv rfl rfl rfl rfl rfl rfl (by omega) (by omega)) rfl ?_
    refine Run.le ?_ hK
    simp only [d0, d1, d5, d6, d7, d8, d9, d13, d15, d16, d17, h0, Nat.reduceBEq, Bool.false_or, Bool.true_or, cond_true, cond_false]
    exact St.Le.mk' ⟨rfl, rfl, rfl, rfl, rfl, rfl, rfl, rfl, rfl, rfl, rfl, rfl, rfl, rfl, rfl, rfl, rfl, rfl, rfl, rfl, rfl, rfl, trivial⟩ ⟨rfl, rfl, trivial⟩
  · intro D hid h0 hp hs rest hK
    obtain ⟨d0, d1, d5, d6, d7, d8, d9, d13, d14, -⟩ : AllD D true [0, 1, 5, 6, 7, 8, 9, 13, 14] := ideal_sub hp (by decide +kernel)
    obtain ⟨d16, d17, -⟩ : AllD D false [16, 17] := ideal_sub hs (by decide +kernel)
    simp only [d0, d1, d5, d6, d7, d8, d9, d13, d14, d16, d17, h0, cond_true, cond_false]
    refine Run.storee (i64 (A.getD (p + 1) 0)) (i64 (A.getD (p) 0)) rfl rfl rfl rfl rfl rfl rfl hyi rfl rfl rfl ?_
    refine Run.le ?_ hK
    simp only [d0, d1, d5, d6, d7, d8, d9, d13, d14, d16, d17, h0, Nat.reduceBEq, Bool.false_or, Bool.true_or, cond_true, cond_false]
    exact St.Le.mk' ⟨rfl, rfl, rfl, rfl, rfl, rfl, rfl, rfl, rfl, rfl, rfl, rfl, rfl, rfl, rfl, rfl, rfl, rfl, rfl, rfl, rfl, rfl, trivial⟩ ⟨rfl, rfl, trivial⟩
  · intro D hid h0 hp hs rest hK
    obtain ⟨d0, d1, d2, d3, d4, d5, d6, d7, d8, d9, d10, d11, d12, d13, d14, d15, -⟩ : AllD D true [0, 1, 2, 3, 4, 5, 6, 7, 8, 9, 10, 11, 12, 13, 14, 15] := ideal_sub hp (by decide +kernel)
    obtain ⟨d17, -⟩ : AllD D false [17] := ideal_sub hs (by decide +kernel)
    simp only [d0, d1, d2, d3, d4, d5, d6, d7, d8, d9, d10, d11, d12, d13, d14, d15, d17, h0, cond_true, cond_false]
    refine Run.val rfl rfl rfl (ValOk.idxv rfl rfl rfl rfl rfl rfl (by omega) (by omega)) rfl ?_
    refine Run.le ?_ hK
    simp only [d0, d1, d2, d3, d4, d5, d6, d7, d8, d9, d10, d11, d12, d13, d14, d15, d17, h0, Nat.reduceBEq, Bool.false_or, Bool.true_or, cond_true, cond_false]
    exact St.Le.mk' ⟨rfl, rfl, rfl, rfl, rfl, rfl, rfl, rfl, rfl, rfl, rfl, rfl, rfl, rfl, rfl, rfl, rfl, rfl, rfl, rfl, rfl, rfl, trivial⟩ ⟨rfl, rfl, trivial⟩
  · intro D hid h0 hp hs rest hK
    obtain ⟨d0, d1, d2, d3, d4, d5, d6, d7, d8, d9, d10, d11, d12, d13, d14, d15, d16, -⟩ : AllD D true [0, 1, 2, 3, 4, 5, 6, 7, 8, 9, 10, 11, 12, 13, 14, 15, 16] := ideal_sub hp (by decide +kernel)
    simp only [d0, d1, d2, d3, d4, d5, d6, d7, d8, d9, d10, d11, d12, d13, d14, d15, d16, h0, cond_true, cond_false]
    refine Run.storee (i64 (A.getD (p) 0)) (i64 (A.getD (p + 1) 0)) rfl rfl rfl rfl rfl rfl rfl hyj2 rfl rfl rfl ?_
    refine Run.le ?_ hK
    simp only [d0, d1, d2, d3, d4, d5, d6, d7, d8, d9, d10, d11, d12, d13, d14, d15, d16, h0, Nat.reduceBEq, Bool.false_or, Bool.true_or, cond_true, cond_false]
    exact St.Le.mk' ⟨rfl, rfl, rfl, rfl, rfl, rfl, rfl, rfl, rfl, rfl, rfl, rfl, rfl, rfl, rfl, rfl, rfl, rfl, rfl, rfl, rfl, rfl, trivial⟩ ⟨rfl, rfl, trivial⟩
  refine Run.of (st' := ⟨[(0, .vec lid 0 n), (1, i64 (a : Nat)), (2, i64 (b : Nat)), (6, bo false), (7, i64 (p + 1 : Nat)), (8, i64 (c : Nat))], [(lid, .vec 1 e ((sZ A (p + 1) (p)).map i64)), (lidT, .tie v0 lid)]⟩) ?_ ⟨rfl, rfl, rfl, rfl, rfl, rfl, trivial⟩ ⟨?_, rfl, trivial⟩
  rotate_left
  · exact congrArg (Ob.vec 1 e) (sZ_map A (p + 1) (p))
  unfold Nxt
  have hpsB : PS a b A0 (sZ A (p + 1) p) := .step hps (by omega) (by omega) (by omega) (by omega) (by omega)
  have hins : INS (sZ A (p + 1) p) a p p := fun u v h1 h2 h3 h4 => by
    rw [sZ_o (by omega) (by omega), sZ_o (by omega) (by omega)]
    exact hss u v h1 h2 (by omega)
  generalize sZ A (p + 1) p = B at *
  clear hss hyi hyj hyj2 hAl hps A
  have hwpa : IntKind.i64.wrap (((p + 1 : Nat) : Int) - (a : Nat)) = ((p + 1 - a : Nat) : Int) := by rw [wrap_i64 (by omega) (by omega)]; omega
  repeat (refine Run.go rfl ?_)
  refine Run.condJE (fun A : List Int => PS a b A0 A ∧ SS A a (p + 1)) (fun A => ⟨[(0, .vec lid 0 n), (1, i64 (a : Nat)), (2, i64 (b : Nat)), (6, bo false), (7, i64 (p + 1 : Nat)), (8, i64 (c : Nat))], [(lid, .vec 1 e (A.map i64)), (lidT, .tie v0 lid)]⟩)
    rfl (fun h k' hN => ?_) (fun h k' hN => ?_) ?_
  · clear h
    repeat (refine Run.go rfl ?_)
    refine Run.loop (fun z : Nat × List Int => ⟨[(0, .vec lid 0 n), (1, i64 (a : Nat)), (2, i64 (b : Nat)), (6, bo false), (7, i64 (p + 1 : Nat)), (8, i64 (c : Nat)), (9, i64 (z.1 : Nat))], [(lid, .vec 1 e (z.2.map i64)), (lidT, .tie v0 lid)]⟩)
      (fun z => a ≤ z.1 ∧ z.1 ≤ p ∧ PS a b A0 z.2 ∧ INS z.2 a p z.1) (fun z => z.1) (p, B) ⟨hp1, Nat.le_refl _, hpsB, hins⟩ ?_ ?_
    · refine St.Le.mk' ⟨rfl, rfl, rfl, rfl, rfl, rfl, ?_, trivial⟩ ⟨rfl, rfl, trivial⟩
      show i64 _ = i64 _
      rw [hwp]
    rintro ⟨j, A⟩ ⟨hj1, hj2, hps, hins⟩ IH2
    dsimp only at hj1 hj2 hps hins ⊢
    have hAl : A.length = n := by rw [hps.len, hn]
    repeat (refine Run.go rfl ?_)
    refine Run.cond rfl (fun h => ?_) (fun h => ?_)
    rotate_left
    · have hj0 : ¬ 1 ≤ j := by have := of_decide_eq_false h; omega
      repeat (refine Run.go rfl ?_)
      exact Run.of (hN A ⟨hps, ins_end hins hj2 (by omega)⟩) ⟨rfl, rfl, rfl, rfl, rfl, rfl, trivial⟩ ⟨rfl, rfl, trivial⟩
    have hj0 : 1 ≤ j := by have := of_decide_eq_true h; omega
    clear h
    obtain ⟨q, rfl⟩ : ∃ q, j = q + 1 := ⟨j - 1, by omega⟩
    have hwq := wD1 (q := q) (by omega)
    repeat (refine Run.go rfl ?_)
    refine Run.drawS ⟨[(0, .vec lid 0 n), (1, i64 (a : Nat)), (2, i64 (b : Nat)), (6, bo false), (7, i64 (p + 1 : Nat)), (8, i64 (c : Nat)), (9, i64 (q + 1 : Nat)), (78, bo (!decide (A.getD (q + 1) 0 < A.getD q 0)))], [(lid, .vec 1 e (A.map i64)), (lidT, .tie v0 lid)]⟩ rfl (by kernel_rfl) ?_ ?_
    · have := hn1
      refine Quiet.go rfl ?_
      refine Quiet.go rfl ?_
      refine Quiet.val rfl rfl (ValOk.idxv rfl rfl rfl rfl rfl rfl (by omega) (by omega)) rfl ?_
      refine Quiet.val rfl rfl (ValOk.loadv (i64 (A.getD (q + 1) 0)) rfl rfl rfl rfl (iat (by omega)) rfl) rfl ?_
      refine Quiet.go rfl ?_
      refine Quiet.go rfl ?_
      refine Quiet.go rfl ?_
      rw [hwq]
      refine Quiet.val rfl rfl (ValOk.idxv rfl rfl rfl rfl rfl rfl (by omega) (by omega)) rfl ?_
      refine Quiet.val rfl rfl (ValOk.loadv (i64 (A.getD (q) 0)) rfl rfl rfl rfl (iat (by omega)) rfl) rfl ?_
      refine Quiet.cs rfl rfl rfl rfl rfl (lessI_ct (A.getD (q + 1) 0) (A.getD (q) 0)) rfl rfl ?_
      refine Quiet.go rfl ?_
      exact Quiet.nil (St.Le.mk' ⟨rfl, rfl, rfl, rfl, rfl, rfl, rfl, rfl, trivial⟩ ⟨rfl, rfl, trivial⟩)
    refine Run.cond rfl (fun h => ?_) (fun h => ?_)
    · have h : ¬ A.getD (q + 1) 0 < A.getD q 0 := by simpa using h
      repeat (refine Run.go rfl ?_)
      exact Run.of (hN A ⟨hps, ins_end hins hj2 (fun h' => h h'.2)⟩) ⟨rfl, rfl, rfl, rfl, rfl, rfl, trivial⟩ ⟨rfl, rfl, trivial⟩
    have h : A.getD (q + 1) 0 < A.getD q 0 := by simpa using h
    have haq : a ≤ q := by
      rcases Nat.lt_or_ge q a with h1 | h1
      · exfalso
        rcases hlow.keep hps with h2 | h2
        · omega
        · have := h2 (q + 1) (by omega) (by omega)
          rw [show a - 1 = q by omega] at this
          omega
      · exact h1
    repeat (refine Run.go rfl ?_)
    have hyi := iat (A := A) (i := q + 1) (by omega)
    have hyj := iat (A := A) (i := q) (by omega)
    have hyj2 := iat2 (A := A) (i := q + 1) (j := q) (by omega) (by omega)
    refine Run.of (st' := ⟨[(0, .vec lid 0 n), (1, i64 (a : Nat)), (2, i64 (b : Nat)), (6, bo false), (7, i64 (p + 1 : Nat)), (8, i64 (c : Nat)), (9, i64 (q + 1 : Nat))], [(lid, .vec 1 e (A.map i64)), (lidT, .tie v0 lid)]⟩) ?_ ⟨rfl, rfl, rfl, rfl, rfl, rfl, rfl, trivial⟩ ⟨rfl, rfl, trivial⟩
    unfold Nxt
    refine Run.drawI (fun D => ⟨[(0, .vec lid 0 n), (1, i64 (a : Nat)), (2, i64 (b : Nat)), (6, bo false), (7, i64 (p + 1 : Nat)), (8, i64 (c : Nat)), (9, i64 (q + 1 : Nat)), (79, bif D 0 then .vec lid 0 n else .top), (80, bif D 1 then i64 ((q + 1 : Nat) : Int) else .top), (81, bif D 2 then .vec lid 0 n else .top), (82, bif D 3 then i64 ((q + 1 : Nat) : Int) else .top), (83, bif D 4 then i64 ((q : Nat) : Int) else .top), (84, bif D 5 then .vec lid 0 n else .top), (85, bif D 6 then i64 ((q + 1 : Nat) : Int) else .top), (86, bif D 7 then i64 ((q : Nat) : Int) else .top), (87, bif D 8 then .ep lid (0 + ((q : Nat) : Int).toNat) 0 else .top), (88, bif D 9 then i64 (A.getD (q) 0) else .top), (89, bif D 10 then .vec lid 0 n else .top), (90, bif D 11 then i64 ((q + 1 : Nat) : Int) else .top), (91, bif D 12 then .ep lid (0 + ((q + 1 : Nat) : Int).toNat) 0 else .top), (92, bif D 13 then i64 (A.getD (q + 1) 0) else .top), (93, bif D 14 then .ep lid (0 + ((q + 1 : Nat) : Int).toNat) 0 else .top), (94, bif D 16 then .ep lid (0 + ((q : Nat) : Int).toNat) 0 else .top)], [(lid, (bif D 17 then Ob.vec 1 e (((A.map i64).set (0 + ((q + 1 : Nat) : Int).toNat) (i64 (A.getD (q) 0))).set (0 + ((q : Nat) : Int).toNat) (i64 (A.getD (q + 1) 0))) else (bif D 15 then Ob.vec 1 e ((A.map i64).set (0 + ((q + 1 : Nat) : Int).toNat) (i64 (A.getD (q) 0))) else Ob.vec 1 e (A.map i64)))), (lidT, Ob.tie v0 lid)]⟩) (by decide +kernel) (by decide +kernel) ?_ ?_ fun k' => ⟨?_, ?_, ?_, ?_, ?_, ?_, ?_, ?_, ?_, ?_, ?_, ?_, ?_, ?_, ?_, ?_, ?_, ?_, trivial⟩
    · exact St.Le.mk' ⟨rfl, rfl, rfl, rfl, rfl, rfl, rfl, rfl, rfl, rfl, rfl, rfl, rfl, rfl, rfl, rfl, rfl, rfl, rfl, rfl, rfl, rfl, rfl, trivial⟩ ⟨rfl, rfl, trivial⟩
    rotate_left
    · intro D hid h0 hp hs rest hK
      obtain ⟨d14, d15, d16, d17, -⟩ : AllD D false [14, 15, 16, 17] := ideal_sub hs (by decide +kernel)
      simp only [d14, d15, d16, d17, h0, cond_true, cond_false]
      refine Run.go rfl ?_
      refine Run.le ?_ hK
      simp only [d14, d15, d16, d17, h0, Nat.reduceBEq, Bool.false_or, Bool.true_or, cond_true, cond_false]
      exact St.Le.mk' ⟨rfl, rfl, rfl, rfl, rfl, rfl, rfl, rfl, rfl, rfl, rfl, rfl, rfl, rfl, rfl, rfl, rfl, rfl, rfl, rfl, rfl, rfl, rfl, trivial⟩ ⟨rfl, rfl, trivial⟩
    · intro D hid h0 hp hs rest hK
      obtain ⟨d14, d15, d16, d17, -⟩ : AllD D false [14, 15, 16, 17] := ideal_sub hs (by decide +kernel)
      simp only [d14, d15, d16, d17, h0, cond_true, cond_false]
      refine Run.go rfl ?_
      refine Run.le ?_ hK
      simp only [d14, d15, d16, d17, h0, Nat.reduceBEq, Bool.false_or, Bool.true_or, cond_true, cond_false]
      exact St.Le.mk' ⟨rfl, rfl, rfl, rfl, rfl, rfl, rfl, rfl, rfl, rfl, rfl, rfl, rfl, rfl, rfl, rfl, rfl, rfl, rfl, rfl, rfl, rfl, rfl, trivial⟩ ⟨rfl, rfl, trivial⟩
    · intro D hid h0 hp hs rest hK
      obtain ⟨d16, d17, -⟩ : AllD D false [16, 17] := ideal_sub hs (by decide +kernel)
      simp only [d16, d17, h0, cond_true, cond_false]
      refine Run.go rfl ?_
      refine Run.le ?_ hK
      simp only [d16, d17, h0, Nat.reduceBEq, Bool.false_or, Bool.true_or, cond_true, cond_false]
      exact St.Le.mk' ⟨rfl, rfl, rfl, rfl, rfl, rfl, rfl, rfl, rfl, rfl, rfl, rfl, rfl, rfl, rfl, rfl, rfl, rfl, rfl, rfl, rfl, rfl, rfl, trivial⟩ ⟨rfl, rfl, trivial⟩
    · intro D hid h0 hp hs rest hK
      obtain ⟨d4, d16, d17, -⟩ : AllD D false [4, 16, 17] := ideal_sub hs (by decide +kernel)
      simp only [d4, d16, d17, h0, cond_true, cond_false]
      refine Run.go rfl ?_
      refine Run.le ?_ hK
      simp only [d4, d16, d17, h0, Nat.reduceBEq, Bool.false_or, Bool.true_or, cond_true, cond_false]
      exact St.Le.mk' ⟨rfl, rfl, rfl, rfl, rfl, rfl, rfl, rfl, rfl, rfl, rfl, rfl, rfl, rfl, rfl, rfl, rfl, rfl, rfl, rfl, rfl, rfl, rfl, trivial⟩ ⟨rfl, rfl, trivial⟩
    · intro D hid h0 hp hs rest hK
      obtain ⟨d3, -⟩ : AllD D true [3] := ideal_sub hp (by decide +kernel)
      obtain ⟨d16, d17, -⟩ : AllD D false [16, 17] := ideal_sub hs (by decide +kernel)
      simp only [d3, d16, d17, h0, cond_true, cond_false]
      refine Run.go rfl ?_
      rw [hwq]
      refine Run.le ?_ hK
      simp only [d3, d16, d17, h0, Nat.reduceBEq, Bool.false_or, Bool.true_or, cond_true, cond_false]
      exact St.Le.mk' ⟨rfl, rfl, rfl, rfl, rfl, rfl, rfl, rfl, rfl, rfl, rfl, rfl, rfl, rfl, rfl, rfl, rfl, rfl, rfl, rfl, rfl, rfl, rfl, trivial⟩ ⟨rfl, rfl, trivial⟩
    · intro D hid h0 hp hs rest hK
      obtain ⟨d8, d14, d15, d16, d17, -⟩ : AllD D false [8, 14, 15, 16, 17] := ideal_sub hs (by decide +kernel)
      simp only [d8, d14, d15, d16, d17, h0, cond_true, cond_false]
      refine Run.go rfl ?_
      refine Run.le ?_ hK
      simp only [d8, d14, d15, d16, d17, h0, Nat.reduceBEq, Bool.false_or, Bool.true_or, cond_true, cond_false]
      exact St.Le.mk' ⟨rfl, rfl, rfl, rfl, rfl, rfl, rfl, rfl, rfl, rfl, rfl, rfl, rfl, rfl, rfl, rfl, rfl, rfl, rfl, rfl, rfl, rfl, rfl, trivial⟩ ⟨rfl, rfl, trivial⟩
    · intro D hid h0 hp hs rest hK
      obtain ⟨d7, d14, d15, d16, d17, -⟩ : AllD D false [7, 14, 15, 16, 17] := ideal_sub hs (by decide +kernel)
      simp only [d7, d14, d15, d16, d17, h0, cond_true, cond_false]
      refine Run.go rfl ?_
      refine Run.le ?_ hK
      simp only [d7, d14, d15, d16, d17, h0, Nat.reduceBEq, Bool.false_or, Bool.true_or, cond_true, cond_false]
      exact St.Le.mk' ⟨rfl, rfl, rfl, rfl, rfl, rfl, rfl, rfl, rfl, rfl, rfl, rfl, rfl, rfl, rfl, rfl, rfl, rfl, rfl, rfl, rfl, rfl, rfl, trivial⟩ ⟨rfl, rfl, trivial⟩
    · intro D hid h0 hp hs rest hK
      obtain ⟨d6, -⟩ : AllD D true [6] := ideal_sub hp (by decide +kernel)
      obtain ⟨d8, d14, d15, d16, d17, -⟩ : AllD D false [8, 14, 15, 16, 17] := ideal_sub hs (by decide +kernel)
      simp only [d6, d8, d14, d15, d16, d17, h0, cond_true, cond_false]
      refine Run.go rfl ?_
      rw [hwq]
      refine Run.le ?_ hK
      simp only [d6, d8, d14, d15, d16, d17, h0, Nat.reduceBEq, Bool.false_or, Bool.true_or, cond_true, cond_false]
      exact St.Le.mk' ⟨rfl, rfl, rfl, rfl, rfl, rfl, rfl, rfl, rfl, rfl, rfl, rfl, rfl, rfl, rfl, rfl, rfl, rfl, rfl, rfl, rfl, rfl, rfl, trivial⟩ ⟨rfl, rfl, trivial⟩
    · intro D hid h0 hp hs rest hK
      obtain ⟨d5, d7, -⟩ : AllD D true [5, 7] := ideal_sub hp (by decide +kernel)
      obtain ⟨d9, d14, d15, d16, d17, -⟩ : AllD D false [9, 14, 15, 16, 17] := ideal_sub hs (by decide +kernel)
      simp only [d5, d7, d9, d14, d15, d16, d17, h0, cond_true, cond_false]
      refine Run.val rfl rfl rfl (ValOk.idxv rfl rfl rfl rfl rfl rfl (by omega) (by omega)) rfl ?_
      refine Run.le ?_ hK
      simp only [d5, d7, d9, d14, d15, d16, d17, h0, Nat.reduceBEq, Bool.false_or, Bool.true_or, cond_true, cond_false]
      exact St.Le.mk' ⟨rfl, rfl, rfl, rfl, rfl, rfl, rfl, rfl, rfl, rfl, rfl, rfl, rfl, rfl, rfl, rfl, rfl, rfl, rfl, rfl, rfl, rfl, rfl, trivial⟩ ⟨rfl, rfl, trivial⟩
    · intro D hid h0 hp hs rest hK
      obtain ⟨d8, -⟩ : AllD D true [8] := ideal_sub hp (by decide +kernel)
      obtain ⟨d14, d15, d16, d17, -⟩ : AllD D false [14, 15, 16, 17] := ideal_sub hs (by decide +kernel)
      simp only [d8, d14, d15, d16, d17, h0, cond_true, cond_false]
      refine Run.val rfl rfl rfl (ValOk.loadv (i64 (A.getD (q) 0)) rfl rfl rfl rfl hyj rfl) rfl ?_
      refine Run.le ?_ hK
      simp only [d8, d14, d15, d16, d17, h0, Nat.reduceBEq, Bool.false_or, Bool.true_or, cond_true, cond_false]
      exact St.Le.mk' ⟨rfl, rfl, rfl, rfl, rfl, rfl, rfl, rfl, rfl, rfl, rfl, rfl, rfl, rfl, rfl, rfl, rfl, rfl, rfl, rfl, rfl, rfl, rfl, trivial⟩ ⟨rfl, rfl, trivial⟩
    · intro D hid h0 hp hs rest hK
      obtain ⟨d12, d16, d17, -⟩ : AllD D false [12, 16, 17] := ideal_sub hs (by decide +kernel)
      simp only [d12, d16, d17, h0, cond_true, cond_false]
      refine Run.go rfl ?_
      refine Run.le ?_ hK
      simp only [d12, d16, d17, h0, Nat.reduceBEq, Bool.false_or, Bool.true_or, cond_true, cond_false]
      exact St.Le.mk' ⟨rfl, rfl, rfl, rfl, rfl, rfl, rfl, rfl, rfl, rfl, rfl, rfl, rfl, rfl, rfl, rfl, rfl, rfl, rfl, rfl, rfl, rfl, rfl, trivial⟩ ⟨rfl, rfl, trivial⟩
    · intro D hid h0 hp hs rest hK
      obtain ⟨d12, d16, d17, -⟩ : AllD D false [12, 16, 17] := ideal_sub hs (by decide +kernel)
      simp only [d12, d16, d17, h0, cond_true, cond_false]
      refine Run.go rfl ?_
      refine Run.le ?_ hK
      simp only [d12, d16, d17, h0, Nat.reduceBEq, Bool.false_or, Bool.true_or, cond_true, cond_false]
      exact St.Le.mk' ⟨rfl, rfl, rfl, rfl, rfl, rfl, rfl, rfl, rfl, rfl, rfl, rfl, rfl, rfl, rfl, rfl, rfl, rfl, rfl, rfl, rfl, rfl, rfl, trivial⟩ ⟨rfl, rfl, trivial⟩
    · intro D hid h0 hp hs rest hK
      obtain ⟨d10, d11, -⟩ : AllD D true [10, 11] := ideal_sub hp (by decide +kernel)
      obtain ⟨d13, d16, d17, -⟩ : AllD D false [13, 16, 17] := ideal_sub hs (by decide +kernel)
      have d15 : D 15 = false := ideal_no (i := 15) (j := 13) hid (by decide +kernel) d13
      simp only [d10, d11, d13, d16, d17, d15, h0, cond_true, cond_false]
      refine Run.val rfl rfl rfl (ValOk.idxv rfl rfl rfl rfl rfl rfl (by omega) (by omega)) rfl ?_
      refine Run.le ?_ hK
      simp only [d10, d11, d13, d16, d17, d15, h0, Nat.reduceBEq, Bool.false_or, Bool.true_or, cond_true, cond_false]
      exact St.Le.mk' ⟨rfl, rfl, rfl, rfl, rfl, rfl, rfl, rfl, rfl, rfl, rfl, rfl, rfl, rfl, rfl, rfl, rfl, rfl, rfl, rfl, rfl, rfl, rfl, trivial⟩ ⟨rfl, rfl, trivial⟩
    · intro D hid h0 hp hs rest hK
      obtain ⟨d12, -⟩ : AllD D true [12] := ideal_sub hp (by decide +kernel)
      obtain ⟨d14, d15, d16, d17, -⟩ : AllD D false [14, 15, 16, 17] := ideal_sub hs (by decide +kernel)
      simp only [d12, d14, d15, d16, d17, h0, cond_true, cond_false]
      refine Run.val rfl rfl rfl (ValOk.loadv (i64 (A.getD (q + 1) 0)) rfl rfl rfl rfl hyi rfl) rfl ?_
      refine Run.le ?_ hK
      simp only [d12, d14, d15, d16, d17, h0, Nat.reduceBEq, Bool.false_or, Bool.true_or, cond_true, cond_false]
      exact St.Le.mk' ⟨rfl, rfl, rfl, rfl, rfl, rfl, rfl, rfl, rfl, rfl, rfl, rfl, rfl, rfl, rfl, rfl, rfl, rfl, rfl, rfl, rfl, rfl, rfl, trivial⟩ ⟨rfl, rfl, trivial⟩
    · intro D hid h0 hp hs rest hK
      obtain ⟨d0, d1, d5, d6, d7, d8, d9, d13, -⟩ : AllD D true [0, 1, 5, 6, 7, 8, 9, 13] := ideal_sub hp (by decide +kernel)
      obtain ⟨d15, d16, d17, -⟩ : AllD D false [15, 16, 17] := ideal_sub hs (by decide +kernel)
      simp only [d0, d1, d5, d6, d7, d8, d9, d13, d15, d16, d17, h0, cond_true, cond_false]
      refine Run.val rfl rfl rfl (ValOk.idxv rfl rfl rfl rfl rfl rfl (by omega) (by omega)) rfl ?_
      refine Run.le ?_ hK
      simp only [d0, d1, d5, d6, d7, d8, d9, d13, d15, d16, d17, h0, Nat.reduceBEq, Bool.false_or, Bool.true_or, cond_true, cond_false]
      exact St.Le.mk' ⟨rfl, rfl, rfl, rfl, rfl, rfl, rfl, rfl, rfl, rfl, rfl, rfl, rfl, rfl, rfl, rfl, rfl, rfl, rfl, rfl, rfl, rfl, rfl, trivial⟩ ⟨rfl, rfl, trivial⟩
    · intro D hid h0 hp hs rest hK
      obtain ⟨d0, d1, d5, d6, d7, d8, d9, d13, d14, -⟩ : AllD D true [0, 1, 5, 6, 7, 8, 9, 13, 14] := ideal_sub hp (by decide +kernel)
      obtain ⟨d16, d17, -⟩ : AllD D false [16, 17] := ideal_sub hs (by decide +kernel)
      simp only [d0, d1, d5, d6, d7, d8, d9, d13, d14, d16, d17, h0, cond_true, cond_false]
      refine Run.storee (i64 (A.getD (q + 1) 0)) (i64 (A.getD (q) 0)) rfl rfl rfl rfl rfl rfl rfl hyi rfl rfl rfl ?_
      refine Run.le ?_ hK
      simp only [d0, d1, d5, d6, d7, d8, d9, d13, d14, d16, d17, h0, Nat.reduceBEq, Bool.false_or, Bool.true_or, cond_true, cond_false]
      exact St.Le.mk' ⟨rfl, rfl, rfl, rfl, rfl, rfl, rfl, rfl, rfl, rfl, rfl, rfl, rfl, rfl, rfl, rfl, rfl, rfl, rfl, rfl, rfl, rfl, rfl, trivial⟩ ⟨rfl, rfl, trivial⟩
    · intro D hid h0 hp hs rest hK
      obtain ⟨d0, d1, d2, d3, d4, d5, d6, d7, d8, d9, d10, d11, d12, d13, d14, d15, -⟩ : AllD D true [0, 1, 2, 3, 4, 5, 6, 7, 8, 9, 10, 11, 12, 13, 14, 15] := ideal_sub hp (by decide +kernel)
      obtain ⟨d17, -⟩ : AllD D false [17] := ideal_sub hs (by decide +kernel)
      simp only [d0, d1, d2, d3, d4, d5, d6, d7, d8, d9, d10, d11, d12, d13, d14, d15, d17, h0, cond_true, cond_false]
      refine Run.val rfl rfl rfl (ValOk.idxv rfl rfl rfl rfl rfl rfl (by omega) (by omega)) rfl ?_
      refine Run.le ?_ hK
      simp only [d0, d1, d2, d3, d4, d5, d6, d7, d8, d9, d10, d11, d12, d13, d14, d15, d17, h0, Nat.reduceBEq, Bool.false_or, Bool.true_or, cond_true, cond_false]
      exact St.Le.mk' ⟨rfl, rfl, rfl, rfl, rfl, rfl, rfl, rfl, rfl, rfl, rfl, rfl, rfl, rfl, rfl, rfl, rfl, rfl, rfl, rfl, rfl, rfl, rfl, trivial⟩ ⟨rfl, rfl, trivial⟩
    · intro D hid h0 hp hs rest hK
      obtain ⟨d0, d1, d2, d3, d4, d5, d6, d7, d8, d9, d10, d11, d12, d13, d14, d15, d16, -⟩ : AllD D true [0, 1, 2, 3, 4, 5, 6, 7, 8, 9, 10, 11, 12, 13, 14, 15, 16] := ideal_sub hp (by decide +kernel)
      simp only [d0, d1, d2, d3, d4, d5, d6, d7, d8, d9, d10, d11, d12, d13, d14, d15, d16, h0, cond_true, cond_false]
      refine Run.storee (i64 (A.getD (q) 0)) (i64 (A.getD (q + 1) 0)) rfl rfl rfl rfl rfl rfl rfl hyj2 rfl rfl rfl ?_
      refine Run.le ?_ hK
      simp only [d0, d1, d2, d3, d4, d5, d6, d7, d8, d9, d10, d11, d12, d13, d14, d15, d16, h0, Nat.reduceBEq, Bool.false_or, Bool.true_or, cond_true, cond_false]
      exact St.Le.mk' ⟨rfl, rfl, rfl, rfl, rfl, rfl, rfl, rfl, rfl, rfl, rfl, rfl, rfl, rfl, rfl, rfl, rfl, rfl, rfl, rfl, rfl, rfl, rfl, trivial⟩ ⟨rfl, rfl, trivial⟩
    refine Run.of (st' := ⟨[(0, .vec lid 0 n), (1, i64 (a : Nat)), (2, i64 (b : Nat)), (6, bo false), (7, i64 (p + 1 : Nat)), (8, i64 (c : Nat)), (9, i64 (q + 1 : Nat))], [(lid, .vec 1 e ((sZ A (q + 1) (q)).map i64)), (lidT, .tie v0 lid)]⟩) ?_ ⟨rfl, rfl, rfl, rfl, rfl, rfl, rfl, trivial⟩ ⟨?_, rfl, trivial⟩
    rotate_left
    · exact congrArg (Ob.vec 1 e) (sZ_map A (q + 1) (q))
    unfold Nxt
    repeat (refine Run.go rfl ?_)
    refine Run.of (IH2 (q, sZ A (q + 1) q) ⟨by show a ≤ q; omega, by show q ≤ p; omega, .step hps (by omega) (by omega) (by omega) (by omega) (by omega), ins_step hins haq hj2 (by omega) h⟩ (by show q < q + 1; omega)) ⟨rfl, rfl, rfl, rfl, rfl, rfl, ?_, trivial⟩ ⟨rfl, rfl, trivial⟩
    show i64 _ = i64 _
    rw [hwq]
  · have h : decide ((2 : Int) ≤ IntKind.i64.wrap (((p + 1 : Nat) : Int) - (a : Nat))) = false := h
    rw [hwpa] at h
    have hpa : p = a := by have := of_decide_eq_false h; omega
    subst hpa
    repeat (refine Run.go rfl ?_)
    exact Run.of (hN B ⟨hpsB, ss_one _ _⟩) ⟨rfl, rfl, rfl, rfl, rfl, rfl, trivial⟩ ⟨rfl, rfl, trivial⟩
  clear hpsB hins hwpa B
  rintro B ⟨hpsB, hss⟩
  repeat (refine Run.go rfl ?_)
  refine Run.cond rfl (fun h => ?_) (fun h => ?_)
  · clear h
    repeat (refine Run.go rfl ?_)
    refine Run.loop (fun z : Nat × List Int => ⟨[(0, .vec lid 0 n), (1, i64 (a : Nat)), (2, i64 (b : Nat)), (6, bo false), (7, i64 (p + 1 : Nat)), (8, i64 (c : Nat)), (10, i64 (z.1 + 1 : Nat))], [(lid, .vec 1 e (z.2.map i64)), (lidT, .tie v0 lid)]⟩)
      (fun z => p + 1 ≤ z.1 ∧ z.1 + 1 ≤ b + 1 ∧ PS a b A0 z.2 ∧ SS z.2 a (p + 1)) (fun z => b - z.1) (p + 1, B) ⟨Nat.le_refl _, by show p + 1 + 1 ≤ b + 1; omega, hpsB, hss⟩ ?_ ?_
    · refine St.Le.mk' ⟨rfl, rfl, rfl, rfl, rfl, rfl, ?_, trivial⟩ ⟨rfl, rfl, trivial⟩
      show i64 _ = i64 _
      rw [wI1 (by omega)]
    clear hpsB hss B
    rintro ⟨q, A⟩ ⟨hq1, hq2, hps, hss⟩ IH2
    dsimp only at hq1 hq2 hps hss ⊢
    have hAl : A.length = n := by rw [hps.len, hn]
    repeat (refine Run.go rfl ?_)
    refine Run.cond rfl (fun h => ?_) (fun h => ?_)
    rotate_left
    · repeat (refine Run.go rfl ?_)
      refine Run.of (IH (c + 1, p + 1, A) ⟨by show c + 1 ≤ 5; omega, by show a + 1 ≤ p + 1; omega, by show p + 1 ≤ b; omega, hps, hss⟩ (by show 5 - (c + 1) < 5 - c; omega)) ⟨rfl, rfl, rfl, rfl, rfl, ?_, trivial⟩ ⟨rfl, rfl, trivial⟩
      show i64 _ = i64 _
      rw [wI1 (by omega)]
    have hqb : q + 1 < b := by have := of_decide_eq_true h; omega
    clear h
    have hwq := wD1 (q := q) (by omega)
    repeat (refine Run.go rfl ?_)
    refine Run.drawS ⟨[(0, .vec lid 0 n), (1, i64 (a : Nat)), (2, i64 (b : Nat)), (6, bo false), (7, i64 (p + 1 : Nat)), (8, i64 (c : Nat)), (10, i64 (q + 1 : Nat)), (116, bo (!decide (A.getD (q + 1) 0 < A.getD q 0)))], [(lid, .vec 1 e (A.map i64)), (lidT, .tie v0 lid)]⟩ rfl (by kernel_rfl) ?_ ?_
    · have := hn1
      refine Quiet.go rfl ?_
      refine Quiet.go rfl ?_
      refine Quiet.val rfl rfl (ValOk.idxv rfl rfl rfl rfl rfl rfl (by omega) (by omega)) rfl ?_
      refine Quiet.val rfl rfl (ValOk.loadv (i64 (A.getD (q + 1) 0)) rfl rfl rfl rfl (iat (by omega)) rfl) rfl ?_
      refine Quiet.go rfl ?_
      refine Quiet.go rfl ?_
      refine Quiet.go rfl ?_
      rw [hwq]
      refine Quiet.val rfl rfl (ValOk.idxv rfl rfl rfl rfl rfl rfl (by omega) (by omega)) rfl ?_
      refine Quiet.val rfl rfl (ValOk.loadv (i64 (A.getD (q) 0)) rfl rfl rfl rfl (iat (by omega)) rfl) rfl ?_
      refine Quiet.cs rfl rfl rfl rfl rfl (lessI_ct (A.getD (q + 1) 0) (A.getD (q) 0)) rfl rfl ?_
      refine Quiet.go rfl ?_
      exact Quiet.nil (St.Le.mk' ⟨rfl, rfl, rfl, rfl, rfl, rfl, rfl, rfl, trivial⟩ ⟨rfl, rfl, trivial⟩)
    refine Run.cond rfl (fun h => ?_) (fun h => ?_)
    · repeat (refine Run.go rfl ?_)
      refine Run.of (IH (c + 1, p + 1, A) ⟨by show c + 1 ≤ 5; omega, by show a + 1 ≤ p + 1; omega, by show p + 1 ≤ b; omega, hps, hss⟩ (by show 5 - (c + 1) < 5 - c; omega)) ⟨rfl, rfl, rfl, rfl, rfl, ?_, trivial⟩ ⟨rfl, rfl, trivial⟩
      show i64 _ = i64 _
      rw [wI1 (by omega)]
    clear h
    repeat (refine Run.go rfl ?_)
    have hyi := iat (A := A) (i := q + 1) (by omega)
    have hyj := iat (A := A) (i := q) (by omega)
    have hyj2 := iat2 (A := A) (i := q + 1) (j := q) (by omega) (by omega)
    refine Run.of (st' := ⟨[(0, .vec lid 0 n), (1, i64 (a : Nat)), (2, i64 (b : Nat)), (6, bo false), (7, i64 (p + 1 : Nat)), (8, i64 (c : Nat)), (10, i64 (q + 1 : Nat))], [(lid, .vec 1 e (A.map i64)), (lidT, .tie v0 lid)]⟩) ?_ ⟨rfl, rfl, rfl, rfl, rfl, rfl, rfl, trivial⟩ ⟨rfl, rfl, trivial⟩
    unfold Nxt
    refine Run.drawI (fun D => ⟨[(0, .vec lid 0 n), (1, i64 (a : Nat)), (2, i64 (b : Nat)), (6, bo false), (7, i64 (p + 1 : Nat)), (8, i64 (c : Nat)), (10, i64 (q + 1 : Nat)), (117, bif D 0 then .vec lid 0 n else .top), (118, bif D 1 then i64 ((q + 1 : Nat) : Int) else .top), (119, bif D 2 then .vec lid 0 n else .top), (120, bif D 3 then i64 ((q + 1 : Nat) : Int) else .top), (121, bif D 4 then i64 ((q : Nat) : Int) else .top), (122, bif D 5 then .vec lid 0 n else .top), (123, bif D 6 then i64 ((q + 1 : Nat) : Int) else .top), (124, bif D 7 then i64 ((q : Nat) : Int) else .top), (125, bif D 8 then .ep lid (0 + ((q : Nat) : Int).toNat) 0 else .top), (126, bif D 9 then i64 (A.getD (q) 0) else .top), (127, bif D 10 then .vec lid 0 n else .top), (128, bif D 11 then i64 ((q + 1 : Nat) : Int) else .top), (129, bif D 12 then .ep lid (0 + ((q + 1 : Nat) : Int).toNat) 0 else .top), (130, bif D 13 then i64 (A.getD (q + 1) 0) else .top), (131, bif D 14 then .ep lid (0 + ((q + 1 : Nat) : Int).toNat) 0 else .top), (132, bif D 16 then .ep lid (0 + ((q : Nat) : Int).toNat) 0 else .top)], [(lid, (bif D 17 then Ob.vec 1 e (((A.map i64).set (0 + ((q + 1 : Nat) : Int).toNat) (i64 (A.getD (q) 0))).set (0 + ((q : Nat) : Int).toNat) (i64 (A.getD (q + 1) 0))) else (bif D 15 then Ob.vec 1 e ((A.map i64).set (0 + ((q + 1 : Nat) : Int).toNat) (i64 (A.getD (q) 0))) else Ob.vec 1 e (A.map i64)))), (lidT, Ob.tie v0 lid)]⟩) (by decide +kernel) (by decide +kernel) ?_ ?_ fun k' => ⟨?_, ?_, ?_, ?_, ?_, ?_, ?_, ?_, ?_, ?_, ?_, ?_, ?_, ?_, ?_, ?_, ?_, ?_, trivial⟩
    · exact St.Le.mk' ⟨rfl, rfl, rfl, rfl, rfl, rfl, rfl, rfl, rfl, rfl, rfl, rfl, rfl, rfl, rfl, rfl, rfl, rfl, rfl, rfl, rfl, rfl, rfl, trivial⟩ ⟨rfl, rfl, trivial⟩
    rotate_left
    · intro D hid h0 hp hs rest hK
      obtain ⟨d14, d15, d16, d17, -⟩ : AllD D false [14, 15, 16, 17] := ideal_sub hs (by decide +kernel)
      simp only [d14, d15, d16, d17, h0, cond_true, cond_false]
      refine Run.go rfl ?_
      refine Run.le ?_ hK
      simp only [d14, d15, d16, d17, h0, Nat.reduceBEq, Bool.false_or, Bool.true_or, cond_true, cond_false]
      exact St.Le.mk' ⟨rfl, rfl, rfl, rfl, rfl, rfl, rfl, rfl, rfl, rfl, rfl, rfl, rfl, rfl, rfl, rfl, rfl, rfl, rfl, rfl, rfl, rfl, rfl, trivial⟩ ⟨rfl, rfl, trivial⟩
    · intro D hid h0 hp hs rest hK
      obtain ⟨d14, d15, d16, d17, -⟩ : AllD D false [14, 15, 16, 17] := ideal_sub hs (by decide +kernel)
      simp only [d14, d15, d16, d17, h0, cond_true, cond_false]
      refine Run.go rfl ?_
      refine Run.le ?_ hK
      simp only [d14, d15, d16, d17, h0, Nat.reduceBEq, Bool.false_or, Bool.true_or, cond_true, cond_false]
      exact St.Le.mk' ⟨rfl, rfl, rfl, rfl, rfl, rfl, rfl, rfl, rfl, rfl, rfl, rfl, rfl, rfl, rfl, rfl, rfl, rfl, rfl, rfl, rfl, rfl, rfl, trivial⟩ ⟨rfl, rfl, trivial⟩
    · intro D hid h0 hp hs rest hK
      obtain ⟨d16, d17, -⟩ : AllD D false [16, 17] := ideal_sub hs (by decide +kernel)
      simp only [d16, d17, h0, cond_true, cond_false]
      refine Run.go rfl ?_
      refine Run.le ?_ hK
      simp only [d16, d17, h0, Nat.reduceBEq, Bool.false_or, Bool.true_or, cond_true, cond_false]
      exact St.Le.mk' ⟨rfl, rfl, rfl, rfl, rfl, rfl, rfl, rfl, rfl, rfl, rfl, rfl, rfl, rfl, rfl, rfl, rfl, rfl, rfl, rfl, rfl, rfl, rfl, trivial⟩ ⟨rfl, rfl, trivial⟩
    · intro D hid h0 hp hs rest hK
      obtain ⟨d4, d16, d17, -⟩ : AllD D false [4, 16, 17] := ideal_sub hs (by decide +kernel)
      simp only [d4, d16, d17, h0, cond_true, cond_false]
      refine Run.go rfl ?_
      refine Run.le ?_ hK
      simp only [d4, d16, d17, h0, Nat.reduceBEq, Bool.false_or, Bool.true_or, cond_true, cond_false]
      exact St.Le.mk' ⟨rfl, rfl, rfl, rfl, rfl, rfl, rfl, rfl, rfl, rfl, rfl, rfl, rfl, rfl, rfl, rfl, rfl, rfl, rfl, rfl, rfl, rfl, rfl, trivial⟩ ⟨rfl, rfl, trivial⟩
    · intro D hid h0 hp hs rest hK
      obtain ⟨d3, -⟩ : AllD D true [3] := ideal_sub hp (by decide +kernel)
      obtain ⟨d16, d17, -⟩ : AllD D false [16, 17] := ideal_sub hs (by decide +kernel)
      simp only [d3, d16, d17, h0, cond_true, cond_false]
      refine Run.go rfl ?_
      rw [hwq]
      refine Run.le ?_ hK
      simp only [d3, d16, d17, h0, Nat.reduceBEq, Bool.false_or, Bool.true_or, cond_true, cond_false]
      exact St.Le.mk' ⟨rfl, rfl, rfl, rfl, rfl, rfl, rfl, rfl, rfl, rfl, rfl, rfl, rfl, rfl, rfl, rfl, rfl, rfl, rfl, rfl, rfl, rfl, rfl, trivial⟩ ⟨rfl, rfl, trivial⟩
    · intro D hid h0 hp hs rest hK
      obtain ⟨d8, d14, d15, d16, d17, -⟩ : AllD D false [8, 14, 15, 16, 17] := ideal_sub hs (by decide +kernel)
      simp only [d8, d14, d15, d16, d17, h0, cond_true, cond_false]
      refine Run.go rfl ?_
      refine Run.le ?_ hK
      simp only [d8, d14, d15, d16, d17, h0, Nat.reduceBEq, Bool.false_or, Bool.true_or, cond_true, cond_false]
      exact St.Le.mk' ⟨rfl, rfl, rfl, rfl, rfl, rfl, rfl, rfl, rfl, rfl, rfl, rfl, rfl, rfl, rfl, rfl, rfl, rfl, rfl, rfl, rfl, rfl, rfl, trivial⟩ ⟨rfl, rfl, trivial⟩
    · intro D hid h0 hp hs rest hK
      obtain ⟨d7, d14, d15, d16, d17, -⟩ : AllD D false [7, 14, 15, 16, 17] := ideal_sub hs (by decide +kernel)
      simp only [d7, d14, d15, d16, d17, h0, cond_true, cond_false]
      refine Run.go rfl ?_
      refine Run.le ?_ hK
      simp only [d7, d14, d15, d16, d17, h0, Nat.reduceBEq, Bool.false_or, Bool.true_or, cond_true, cond_false]
      exact St.Le.mk' ⟨rfl, rfl, rfl, rfl, rfl, rfl, rfl, rfl, rfl, rfl, rfl, rfl, rfl, rfl, rfl, rfl, rfl, rfl, rfl, rfl, rfl, rfl, rfl, trivial⟩ ⟨rfl, rfl, trivial⟩
    · intro D hid h0 hp hs rest hK
      obtain ⟨d6, -⟩ : AllD D true [6] := ideal_sub hp (by decide +kernel)
      obtain ⟨d8, d14, d15, d16, d17, -⟩ : AllD D false [8, 14, 15, 16, 17] := ideal_sub hs (by decide +kernel)
      simp only [d6, d8, d14, d15, d16, d17, h0, cond_true, cond_false]
      refine Run.go rfl ?_
      rw [hwq]
      refine Run.le ?_ hK
      simp only [d6, d8, d14, d15, d16, d17, h0, Nat.reduceBEq, Bool.false_or, Bool.true_or, cond_true, cond_false]
      exact St.Le.mk' ⟨rfl, rfl, rfl, rfl, rfl, rfl, rfl, rfl, rfl, rfl, rfl, rfl, rfl, rfl, rfl, rfl, rfl, rfl, rfl, rfl, rfl, rfl, rfl, trivial⟩ ⟨rfl, rfl, trivial⟩
    · intro D hid h0 hp hs rest hK
      obtain ⟨d5, d7, -⟩ : AllD D true [5, 7] := ideal_sub hp (by decide +kernel)
      obtain ⟨d9, d14, d15, d16, d17, -⟩ : AllD D false [9, 14, 15, 16, 17] := ideal_sub hs (by decide +kernel)
      simp only [d5, d7, d9, d14, d15, d16, d17, h0, cond_true, cond_false]
      refine Run.val rfl rfl rfl (ValOk.idxv rfl rfl rfl rfl rfl rfl (by omega) (by omega)) rfl ?_
      refine Run.le ?_ hK
      simp only [d5, d7, d9, d14, d15, d16, d17, h0, Nat.reduceBEq, Bool.false_or, Bool.true_or, cond_true, cond_false]
      exact St.Le.mk' ⟨rfl, rfl, rfl, rfl, rfl, rfl, rfl, rfl, rfl, rfl, rfl, rfl, rfl, rfl, rfl, rfl, rfl, rfl, rfl, rfl, rfl, rfl, rfl, trivial⟩ ⟨rfl, rfl, trivial⟩
    · intro D hid h0 hp hs rest hK
      obtain ⟨d8, -⟩ : AllD D true [8] := ideal_sub hp (by decide +kernel)
      obtain ⟨d14, d15, d16, d17, -⟩ : AllD D false [14, 15, 16, 17] := ideal_sub hs (by decide +kernel)
      simp only [d8, d14, d15, d16, d17, h0, cond_true, cond_false]
      refine Run.val rfl rfl rfl (ValOk.loadv (i64 (A.getD (q) 0)) rfl rfl rfl rfl hyj rfl) rfl ?_
      refine Run.le ?_ hK
      simp only [d8, d14, d15, d16, d17, h0, Nat.reduceBEq, Bool.false_or, Bool.true_or, cond_true, cond_false]
      exact St.Le.mk' ⟨rfl, rfl, rfl, rfl, rfl, rfl, rfl, rfl, rfl, rfl, rfl, rfl, rfl, rfl, rfl, rfl, rfl, rfl, rfl, rfl, rfl, rfl, rfl, trivial⟩ ⟨rfl, rfl, trivial⟩
    · intro D hid h0 hp hs rest hK
      obtain ⟨d12, d16, d17, -⟩ : AllD D false [12, 16, 17] := ideal_sub hs (by decide +kernel)
      simp only [d12, d16, d17, h0, cond_true, cond_false]
      refine Run.go rfl ?_
      refine Run.le ?_ hK
      simp only [d12, d16, d17, h0, Nat.reduceBEq, Bool.false_or, Bool.true_or, cond_true, cond_false]
      exact St.Le.mk' ⟨rfl, rfl, rfl, rfl, rfl, rfl, rfl, rfl, rfl, rfl, rfl, rfl, rfl, rfl, rfl, rfl, rfl, rfl, rfl, rfl, rfl, rfl, rfl, trivial⟩ ⟨rfl, rfl, trivial⟩
    · intro D hid h0 hp hs rest hK
      obtain ⟨d12, d16, d17, -⟩ : AllD D false [12, 16, 17] := ideal_sub hs (by decide +kernel)
      simp only [d12, d16, d17, h0, cond_true, cond_false]
      refine Run.go rfl ?_
      refine Run.le ?_ hK
      simp only [d12, d16, d17, h0, Nat.reduceBEq, Bool.false_or, Bool.true_or, cond_true, cond_false]
      exact St.Le.mk' ⟨rfl, rfl, rfl, rfl, rfl, rfl, rfl, rfl, rfl, rfl, rfl, rfl, rfl, rfl, rfl, rfl, rfl, rfl, rfl, rfl, rfl, rfl, rfl, trivial⟩ ⟨rfl, rfl, trivial⟩
    · intro D hid h0 hp hs rest hK
      obtain ⟨d10, d11, -⟩ : AllD D true [10, 11] := ideal_sub hp (by decide +kernel)
      obtain ⟨d13, d16, d17, -⟩ : AllD D false [13, 16, 17] := ideal_sub hs (by decide +kernel)
      have d15 : D 15 = false := ideal_no (i := 15) (j := 13) hid (by decide +kernel) d13
      simp only [d10, d11, d13, d16, d17, d15, h0, cond_true, cond_false]
      refine Run.val rfl rfl rfl (ValOk.idxv rfl rfl rfl rfl rfl rfl (by omega) (by omega)) rfl ?_
      refine Run.le ?_ hK
      simp only [d10, d11, d13, d16, d17, d15, h0, Nat.reduceBEq, Bool.false_or, Bool.true_or, cond_true, cond_false]
      exact St.Le.mk' ⟨rfl, rfl, rfl, rfl, rfl, rfl, rfl, rfl, rfl, rfl, rfl, rfl, rfl, rfl, rfl, rfl, rfl, rfl, rfl, rfl, rfl, rfl, rfl, trivial⟩ ⟨rfl, rfl, trivial⟩
    · intro D hid h0 hp hs rest hK
      obtain ⟨d12, -⟩ : AllD D true [12] := ideal_sub hp (by decide +kernel)
      obtain ⟨d14, d15, d16, d17, -⟩ : AllD D false [14, 15, 16, 17] := ideal_sub hs (by decide +kernel)
      simp only [d12, d14, d15, d16, d17, h0, cond_true, cond_false]
      refine Run.val rfl rfl rfl (ValOk.loadv (i64 (A.getD (q + 1) 0)) rfl rfl rfl rfl hyi rfl) rfl ?_
      refine Run.le ?_ hK
      simp only [d12, d14, d15, d16, d17, h0, Nat.reduceBEq, Bool.false_or, Bool.true_or, cond_true, cond_false]
      exact St.Le.mk' ⟨rfl, rfl, rfl, rfl, rfl, rfl, rfl, rfl, rfl, rfl, rfl, rfl, rfl, rfl, rfl, rfl, rfl, rfl, rfl, rfl, rfl, rfl, rfl, trivial⟩ ⟨rfl, rfl, trivial⟩
    · intro D hid h0 hp hs rest hK
      obtain ⟨d0, d1, d5, d6, d7, d8, d9, d13, -⟩ : AllD D true [0, 1, 5, 6, 7, 8, 9, 13] := ideal_sub hp (by decide +kernel)
      obtain ⟨d15, d16, d17, -⟩ : AllD D false [15, 16, 17] := ideal_sub hs (by decide +kernel)
      simp only [d0, d1, d5, d6, d7, d8, d9, d13, d15, d16, d17, h0, cond_true, cond_false]
      refine Run.val rfl rfl rfl (ValOk.idxv rfl rfl rfl rfl rfl rfl (by omega) (by omega)) rfl ?_
      refine Run.le ?_ hK
      simp only [d0, d1, d5, d6, d7, d8, d9, d13, d15, d16, d17, h0, Nat.reduceBEq, Bool.false_or, Bool.true_or, cond_true, cond_false]
      exact St.Le.mk' ⟨rfl, rfl, rfl, rfl, rfl, rfl, rfl, rfl, rfl, rfl, rfl, rfl, rfl, rfl, rfl, rfl, rfl, rfl, rfl, rfl, rfl, rfl, rfl, trivial⟩ ⟨rfl, rfl, trivial⟩
    · intro D hid h0 hp hs rest hK
      obtain ⟨d0, d1, d5, d6, d7, d8, d9, d13, d14, -⟩ : AllD D true [0, 1, 5, 6, 7, 8, 9, 13, 14] := ideal_sub hp (by decide +kernel)
      obtain ⟨d16, d17, -⟩ : AllD D false [16, 17] := ideal_sub hs (by decide +kernel)
      simp only [d0, d1, d5, d6, d7, d8, d9, d13, d14, d16, d17, h0, cond_true, cond_false]
      refine Run.storee (i64 (A.getD (q + 1) 0)) (i64 (A.getD (q) 0)) rfl rfl rfl rfl rfl rfl rfl hyi rfl rfl rfl ?_
      refine Run.le ?_ hK
      simp only [d0, d1, d5, d6, d7, d8, d9, d13, d14, d16, d17, h0, Nat.reduceBEq, Bool.false_or, Bool.true_or, cond_true, cond_false]
      exact St.Le.mk' ⟨rfl, rfl, rfl, rfl, rfl, rfl, rfl, rfl, rfl, rfl, rfl, rfl, rfl, rfl, rfl, rfl, rfl, rfl, rfl, rfl, rfl, rfl, rfl, trivial⟩ ⟨rfl, rfl, trivial⟩
    · intro D hid h0 hp hs rest hK
      obtain ⟨d0, d1, d2, d3, d4, d5, d6, d7, d8, d9, d10, d11, d12, d13, d14, d15, -⟩ : AllD D true [0, 1, 2, 3, 4, 5, 6, 7, 8, 9, 10, 11, 12, 13, 14, 15] := ideal_sub hp (by decide +kernel)
      obtain ⟨d17, -⟩ : AllD D false [17] := ideal_sub hs (by decide +kernel)
      simp only [d0, d1, d2, d3, d4, d5, d6, d7, d8, d9, d10, d11, d12, d13, d14, d15, d17, h0, cond_true, cond_false]
      refine Run.val rfl rfl rfl (ValOk.idxv rfl rfl rfl rfl rfl rfl (by omega) (by omega)) rfl ?_
      refine Run.le ?_ hK
      simp only [d0, d1, d2, d3, d4, d5, d6, d7, d8, d9, d10, d11, d12, d13, d14, d15, d17, h0, Nat.reduceBEq, Bool.false_or, Bool.true_or, cond_true, cond_false]
      exact St.Le.mk' ⟨rfl, rfl, rfl, rfl, rfl, rfl, rfl, rfl, rfl, rfl, rfl, rfl, rfl, rfl, rfl, rfl, rfl, rfl, rfl, rfl, rfl, rfl, rfl, trivial⟩ ⟨rfl, rfl, trivial⟩
    · intro D hid h0 hp hs rest hK
      obtain ⟨d0, d1, d2, d3, d4, d5, d6, d7, d8, d9, d10, d11, d12, d13, d14, d15, d16, -⟩ : AllD D true [0, 1, 2, 3, 4, 5, 6, 7, 8, 9, 10, 11, 12, 13, 14, 15, 16] := ideal_sub hp (by decide +kernel)
      simp only [d0, d1, d2, d3, d4, d5, d6, d7, d8, d9, d10, d11, d12, d13, d14, d15, d16, h0, cond_true, cond_false]
      refine Run.storee (i64 (A.getD (q) 0)) (i64 (A.getD (q + 1) 0)) rfl rfl rfl rfl rfl rfl rfl hyj2 rfl rfl rfl ?_
      refine Run.le ?_ hK
      simp only [d0, d1, d2, d3, d4, d5, d6, d7, d8, d9, d10, d11, d12, d13, d14, d15, d16, h0, Nat.reduceBEq, Bool.false_or, Bool.true_or, cond_true, cond_false]
      exact St.Le.mk' ⟨rfl, rfl, rfl, rfl, rfl, rfl, rfl, rfl, rfl, rfl, rfl, rfl, rfl, rfl, rfl, rfl, rfl, rfl, rfl, rfl, rfl, rfl, rfl, trivial⟩ ⟨rfl, rfl, trivial⟩
    refine Run.of (st' := ⟨[(0, .vec lid 0 n), (1, i64 (a : Nat)), (2, i64 (b : Nat)), (6, bo false), (7, i64 (p + 1 : Nat)), (8, i64 (c : Nat)), (10, i64 (q + 1 : Nat))], [(lid, .vec 1 e ((sZ A (q + 1) (q)).map i64)), (lidT, .tie v0 lid)]⟩) ?_ ⟨rfl, rfl, rfl, rfl, rfl, rfl, rfl, trivial⟩ ⟨?_, rfl, trivial⟩
    rotate_left
    · exact congrArg (Ob.vec 1 e) (sZ_map A (q + 1) (q))
    unfold Nxt
    have hstep : PS (p + 1) b A (sZ A (q + 1) q) := .step .refl (by omega) (by omega) (by omega) (by omega) (by omega)
    repeat (refine Run.go rfl ?_)
    refine Run.of (IH2 (q + 1, sZ A (q + 1) q) ⟨by show p + 1 ≤ q + 1; omega, by show q + 1 + 1 ≤ b + 1; omega, hps.trans (hstep.mono (by omega) (by omega) (by omega)), hss.out hstep (by omega)⟩ (by show b - (q + 1) < b - q; omega)) ⟨rfl, rfl, rfl, rfl, rfl, rfl, ?_, trivial⟩ ⟨rfl, rfl, trivial⟩
    show i64 _ = i64 _
    rw [wI1 (by omega)]
  · repeat (refine Run.go rfl ?_)
    refine Run.of (IH (c + 1, p + 1, B) ⟨by show c + 1 ≤ 5; omega, by show a + 1 ≤ p + 1; omega, by show p + 1 ≤ b; omega, hpsB, hss⟩ (by show 5 - (c + 1) < 5 - c; omega)) ⟨rfl, rfl, rfl, rfl, rfl, ?_, trivial⟩ ⟨rfl, rfl, trivial⟩
    show i64 _ = i64 _
    rw [wI1 (by omega)]
end Go.Proofs.Ytcfkdcjindhnjaa
