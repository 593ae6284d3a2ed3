/- Contracts of the program's functions, and what follows from them. -/
import Derived.Test.YtcfkdcjindhnjaaK52
set_option linter.unusedVariables false
set_option maxRecDepth 100000
set_option linter.unusedSimpArgs false
namespace Go.Proofs.Ytcfkdcjindhnjaa
open Go Go.Av

/-! A part of a list of numbers is sorted by a heap. -/

theorem heap_pop {A B : List Int} {a q b : Nat} (hq : a + q < b) (hb : b ≤ A.length) (hh : HP A a 0 (q + 1)) (hs : SS A (a + (q + 1)) b)
    (hm : ∀ u v, u < q + 1 → a + (q + 1) ≤ v → v < b → A.getD (a + u) 0 ≤ A.getD v 0) (hp : PS (a + 0) (a + q) (sZ A a (a + q)) B) :
    SS B (a + q) b ∧ ∀ u v, u < q → a + q ≤ v → v < b → B.getD (a + u) 0 ≤ B.getD v 0 := by
  have e1 := sZ_l (A := A) (i := a) (j := a + q) (by omega) (by omega)
  have e2 := sZ_r (A := A) (i := a) (j := a + q) (by omega)
  have eo : ∀ k, k ≠ a → k ≠ a + q → (sZ A a (a + q)).getD k 0 = A.getD k 0 := fun k h1 h2 => sZ_o h1 h2
  have hB : ∀ v, a + q ≤ v → B.getD v 0 = (sZ A a (a + q)).getD v 0 := fun v hv => hp.out (by omega)
  have hBq : B.getD (a + q) 0 = A.getD a 0 := by rw [hB _ (Nat.le_refl _), e2]
  have hBv : ∀ v, a + q < v → B.getD v 0 = A.getD v 0 := fun v hv => by rw [hB v (by omega), eo v (by omega) (by omega)]
  have htop := hh.top
  refine ⟨fun i j h1 h2 h3 => ?_, fun u v h1 h2 h3 => ?_⟩
  · by_cases hi : i = a + q
    · subst hi
      by_cases hj : j = a + q
      · subst hj; exact Int.le_refl _
      · rw [hBq, hBv j (by omega)]
        have := hm 0 j (by omega) (by omega) h3
        simpa using this
    · rw [hBv i (by omega), hBv j (by omega)]
      exact hs i j (by omega) h2 h3
  · refine hp.all (P := fun x => x ≤ B.getD v 0) (fun k hk1 hk2 => ?_) (a + u) (by omega) (by omega)
    have hk : (sZ A a (a + q)).getD k 0 ≤ A.getD a 0 ∧ ∀ v, a + (q + 1) ≤ v → v < b → (sZ A a (a + q)).getD k 0 ≤ A.getD v 0 := by
      by_cases hka : k = a
      · subst hka
        rw [e1]
        exact ⟨htop q (by omega), fun v hv1 hv2 => hm q v (by omega) hv1 hv2⟩
      · rw [eo k hka (by omega)]
        obtain ⟨w, rfl⟩ : ∃ w, k = a + w := ⟨k - a, by omega⟩
        exact ⟨htop w (by omega), fun v hv1 hv2 => hm w v (by omega) hv1 hv2⟩
    show (sZ A a (a + q)).getD k 0 ≤ B.getD v 0
    by_cases hv : v = a + q
    · subst hv; rw [hBq]; exact hk.1
    · rw [hBv v (by omega)]; exact hk.2 v (by omega) h3
theorem heap_rest {A : List Int} {a q : Nat} (hh : HP A a 0 (q + 1)) : HP (sZ A a (a + q)) a (0 + 1) q := by
  intro k c h1 h2 h3
  rw [sZ_o (by omega) (by omega), sZ_o (by omega) (by omega)]
  exact hh k c (by omega) h2 (by omega)

noncomputable def X41 : Fx := ⟨Try.prog, tys, 41, Try.f41, [0, 1, 2]⟩
theorem X41_ok : X41.Ok := ⟨Try.func41, tys_ok⟩
set_option maxHeartbeats 2000000 in
theorem heap_ct (n : Nat) (A0 : List Int) (e : Bool) (a b : Nat) (hn : A0.length = n) (hn1 : n ≤ 1000) (hab : a < b) (hb : b ≤ n) :
    CtE Try.prog 41 [.vec lid 0 n, i64 (a : Nat), i64 (b : Nat)] (.vec 1 e (A0.map i64)) (fun B : List Int => PS a b A0 B ∧ SS B a b) (fun _ => .tup []) (fun B => .vec 1 e (B.map i64)) := by
  refine CtE.intro X41 X41_ok rfl (by kernel_rfl) rfl rfl (fun _ _ => rfl) (fun _ _ => rfl) rfl fun g v0 hg => ?_
  obtain ⟨h, hh⟩ : ∃ h, h = b - a := ⟨_, rfl⟩
  have hw1 : IntKind.i64.wrap ((b : Nat) - (a : Nat) : Int) = ((h : Nat) : Int) := by rw [wrap_i64 (by omega) (by omega)]; omega
  have hw2 : IntKind.i64.wrap (((h : Nat) : Int) - 1) = ((h - 1 : Nat) : Int) := by rw [wrap_i64 (by omega) (by omega)]; omega
  repeat (refine Run.go rfl ?_)
  refine Run.loop (fun z : Nat × List Int => ⟨[(0, .vec lid 0 n), (1, i64 (a : Nat)), (2, i64 (b : Nat)), (6, i64 (a : Nat)), (7, i64 0), (8, i64 (h : Nat)), (9, i64 ((z.1 : Nat) - 1 : Int))], [(lid, .vec 1 e (z.2.map i64)), (lidT, .tie v0 lid)]⟩)
    (fun z => z.1 ≤ n ∧ PS a b A0 z.2 ∧ HP z.2 a z.1 h) (fun z => z.1) ((h - 1) / 2 + 1, A0) ⟨by omega, .refl, fun k c h1 h2 h3 => by omega⟩ ?_ ?_
  · refine St.Le.mk' ⟨rfl, rfl, rfl, rfl, rfl, ?_, ?_, trivial⟩ ⟨rfl, rfl, trivial⟩
    · show i64 _ = i64 _
      rw [hw1]
    · show i64 _ = i64 _
      rw [hw1, hw2]
      rw [Int.tdiv_eq_ediv_of_nonneg (by omega), wrap_i64 (by omega) (by omega)]
      show i64 (((h - 1 : Nat) : Int) / 2) = i64 ((((h - 1) / 2 + 1 : Nat) : Int) - 1)
      congr 1
      omega
  rintro ⟨m, A⟩ ⟨hm, hps, hhp⟩ IH
  dsimp only at hm hps hhp ⊢
  have hAl : A.length = n := by rw [hps.len, hn]
  repeat (refine Run.go rfl ?_)
  refine Run.cond rfl (fun hc => ?_) (fun hc => ?_)
  · have hc : decide ((0 : Int) ≤ (m : Nat) - 1) = true := hc
    have hm1 : 1 ≤ m := by have := of_decide_eq_true hc; omega
    obtain ⟨q, rfl⟩ : ∃ q, m = q + 1 := ⟨m - 1, by omega⟩
    have hq : (((q + 1 : Nat) : Int) - 1) = ((q : Nat) : Int) := by omega
    have hq2 : IntKind.i64.wrap (((q : Nat) : Int) - 1) = ((q : Nat) : Int) - 1 := by rw [wrap_i64 (by omega) (by omega)]
    rw [hq]
    repeat (refine Run.go rfl ?_)
    refine Run.callE lid rfl rfl rfl rfl rfl rfl rfl rfl (sift_ct n A e q h a hAl hn1 (by omega) (by omega) hhp) rfl rfl fun B hB => ?_
    repeat (refine Run.go rfl ?_)
    refine Run.of (IH (q, B) ⟨by show q ≤ n; omega, hps.trans (hB.1.mono (by omega) (by omega) (by omega)), hB.2⟩ (by show q < q + 1; omega)) ⟨rfl, rfl, rfl, rfl, rfl, rfl, ?_, trivial⟩ ⟨rfl, rfl, trivial⟩
    show i64 _ = i64 _
    rw [hq2]
  have hc : decide ((0 : Int) ≤ (m : Nat) - 1) = false := hc
  obtain rfl : m = 0 := by have := of_decide_eq_false hc; omega
  clear IH hc
  repeat (refine Run.go rfl ?_)
  refine Run.loop (fun z : Nat × List Int => ⟨[(0, .vec lid 0 n), (1, i64 (a : Nat)), (2, i64 (b : Nat)), (6, i64 (a : Nat)), (7, i64 0), (8, i64 (h : Nat)), (10, i64 ((z.1 : Nat) - 1 : Int))], [(lid, .vec 1 e (z.2.map i64)), (lidT, .tie v0 lid)]⟩)
    (fun z => z.1 ≤ h ∧ PS a b A0 z.2 ∧ HP z.2 a 0 z.1 ∧ SS z.2 (a + z.1) b ∧ ∀ u v, u < z.1 → a + z.1 ≤ v → v < b → z.2.getD (a + u) 0 ≤ z.2.getD v 0) (fun z => z.1) (h, A)
    ⟨Nat.le_refl _, hps, hhp, fun i j h1 h2 h3 => by omega, fun u v h1 h2 h3 => by omega⟩ ?_ ?_
  · refine St.Le.mk' ⟨rfl, rfl, rfl, rfl, rfl, rfl, ?_, trivial⟩ ⟨rfl, rfl, trivial⟩
    show i64 _ = i64 _
    rw [hw2]
    congr 1
    show ((h - 1 : Nat) : Int) = (h : Nat) - 1
    omega
  clear hps hhp hAl A
  rintro ⟨m, A⟩ ⟨hm, hps, hhp, hss, hlt⟩ IH
  dsimp only at hm hps hhp hss hlt ⊢
  have hAl : A.length = n := by rw [hps.len, hn]
  repeat (refine Run.go rfl ?_)
  refine Run.cond rfl (fun hc => ?_) (fun hc => ?_)
  · have hc : decide ((0 : Int) ≤ (m : Nat) - 1) = true := hc
    have hm1 : 1 ≤ m := by have := of_decide_eq_true hc; omega
    obtain ⟨q, rfl⟩ : ∃ q, m = q + 1 := ⟨m - 1, by omega⟩
    have hq : (((q + 1 : Nat) : Int) - 1) = ((q : Nat) : Int) := by omega
    have hq2 : IntKind.i64.wrap (((q : Nat) : Int) - 1) = ((q : Nat) : Int) - 1 := by rw [wrap_i64 (by omega) (by omega)]
    have hwq := wS (a := a) (b := q) (by omega) (by omega)
    rw [hq]
    repeat (refine Run.go rfl ?_)
    have hyi := iat (A := A) (i := a) (by omega)
    have hyj := iat (A := A) (i := a + q) (by omega)
    have hyj2 := iat2 (A := A) (i := a) (j := a + q) (by omega) (by omega)
    refine Run.of (st' := ⟨[(0, .vec lid 0 n), (1, i64 (a : Nat)), (2, i64 (b : Nat)), (6, i64 (a : Nat)), (7, i64 0), (8, i64 (h : Nat)), (10, i64 (q : Nat))], [(lid, .vec 1 e (A.map i64)), (lidT, .tie v0 lid)]⟩) ?_ ⟨rfl, rfl, rfl, rfl, rfl, rfl, rfl, trivial⟩ ⟨rfl, rfl, trivial⟩
    unfold Nxt
    refine Run.drawI (fun D => ⟨[(0, .vec lid 0 n), (1, i64 (a : Nat)), (2, i64 (b : Nat)), (6, i64 (a : Nat)), (7, i64 0), (8, i64 (h : Nat)), (10, i64 (q : Nat)), (33, bif D 0 then .vec lid 0 n else .top), (34, bif D 1 then i64 ((a : Nat) : Int) else .top), (35, bif D 2 then .vec lid 0 n else .top), (36, bif D 3 then i64 ((a : Nat) : Int) else .top), (37, bif D 4 then i64 ((q : Nat) : Int) else .top), (38, bif D 5 then i64 ((a + q : Nat) : Int) else .top), (39, bif D 6 then .vec lid 0 n else .top), (40, bif D 7 then i64 ((a : Nat) : Int) else .top), (41, bif D 8 then i64 ((q : Nat) : Int) else .top), (42, bif D 9 then i64 ((a + q : Nat) : Int) else .top), (43, bif D 10 then .ep lid (0 + ((a + q : Nat) : Int).toNat) 0 else .top), (44, bif D 11 then i64 (A.getD (a + q) 0) else .top), (45, bif D 12 then .vec lid 0 n else .top), (46, bif D 13 then i64 ((a : Nat) : Int) else .top), (47, bif D 14 then .ep lid (0 + ((a : Nat) : Int).toNat) 0 else .top), (48, bif D 15 then i64 (A.getD (a) 0) else .top), (49, bif D 16 then .ep lid (0 + ((a : Nat) : Int).toNat) 0 else .top), (50, bif D 18 then .ep lid (0 + ((a + q : Nat) : Int).toNat) 0 else .top)], [(lid, (bif D 19 then Ob.vec 1 e (((A.map i64).set (0 + ((a : Nat) : Int).toNat) (i64 (A.getD (a + q) 0))).set (0 + ((a + q : Nat) : Int).toNat) (i64 (A.getD (a) 0))) else (bif D 17 then Ob.vec 1 e ((A.map i64).set (0 + ((a : Nat) : Int).toNat) (i64 (A.getD (a + q) 0))) else Ob.vec 1 e (A.map i64)))), (lidT, Ob.tie v0 lid)]⟩) (by decide +kernel) (by decide +kernel) ?_ ?_ fun k' => ⟨?_, ?_, ?_, ?_, ?_, ?_, ?_, ?_, ?_, ?_, ?_, ?_, ?_, ?_, ?_, ?_, ?_, ?_, ?_, ?_, trivial⟩
    · exact St.Le.mk' ⟨rfl, rfl, rfl, rfl, rfl, rfl, rfl, rfl, rfl, rfl, rfl, rfl, rfl, rfl, rfl, rfl, rfl, rfl, rfl, rfl, rfl, rfl, rfl, rfl, rfl, trivial⟩ ⟨rfl, rfl, trivial⟩
    rotate_left
    · intro D hid h0 hp hs rest hK
      obtain ⟨d16, d17, d18, d19, -⟩ : AllD D false [16, 17, 18, 19] := ideal_sub hs (by decide +kernel)
      simp only [d16, d17, d18, d19, h0, cond_true, cond_false]
      refine Run.go rfl ?_
      refine Run.le ?_ hK
      simp only [d16, d17, d18, d19, h0, Nat.reduceBEq, Bool.false_or, Bool.true_or, cond_true, cond_false]
      exact St.Le.mk' ⟨rfl, rfl, rfl, rfl, rfl, rfl, rfl, rfl, rfl, rfl, rfl, rfl, rfl, rfl, rfl, rfl, rfl, rfl, rfl, rfl, rfl, rfl, rfl, rfl, rfl, trivial⟩ ⟨rfl, rfl, trivial⟩
    · intro D hid h0 hp hs rest hK
      obtain ⟨d16, d17, d18, d19, -⟩ : AllD D false [16, 17, 18, 19] := ideal_sub hs (by decide +kernel)
      simp only [d16, d17, d18, d19, h0, cond_true, cond_false]
      refine Run.go rfl ?_
      refine Run.le ?_ hK
      simp only [d16, d17, d18, d19, h0, Nat.reduceBEq, Bool.false_or, Bool.true_or, cond_true, cond_false]
      exact St.Le.mk' ⟨rfl, rfl, rfl, rfl, rfl, rfl, rfl, rfl, rfl, rfl, rfl, rfl, rfl, rfl, rfl, rfl, rfl, rfl, rfl, rfl, rfl, rfl, rfl, rfl, rfl, trivial⟩ ⟨rfl, rfl, trivial⟩
    · intro D hid h0 hp hs rest hK
      obtain ⟨d18, d19, -⟩ : AllD D false [18, 19] := ideal_sub hs (by decide +kernel)
      simp only [d18, d19, h0, cond_true, cond_false]
      refine Run.go rfl ?_
      refine Run.le ?_ hK
      simp only [d18, d19, h0, Nat.reduceBEq, Bool.false_or, Bool.true_or, cond_true, cond_false]
      exact St.Le.mk' ⟨rfl, rfl, rfl, rfl, rfl, rfl, rfl, rfl, rfl, rfl, rfl, rfl, rfl, rfl, rfl, rfl, rfl, rfl, rfl, rfl, rfl, rfl, rfl, rfl, rfl, trivial⟩ ⟨rfl, rfl, trivial⟩
    · intro D hid h0 hp hs rest hK
      obtain ⟨d5, d18, d19, -⟩ : AllD D false [5, 18, 19] := ideal_sub hs (by decide +kernel)
      simp only [d5, d18, d19, h0, cond_true, cond_false]
      refine Run.go rfl ?_
      refine Run.le ?_ hK
      simp only [d5, d18, d19, h0, Nat.reduceBEq, Bool.false_or, Bool.true_or, cond_true, cond_false]
      exact St.Le.mk' ⟨rfl, rfl, rfl, rfl, rfl, rfl, rfl, rfl, rfl, rfl, rfl, rfl, rfl, rfl, rfl, rfl, rfl, rfl, rfl, rfl, rfl, rfl, rfl, rfl, rfl, trivial⟩ ⟨rfl, rfl, trivial⟩
    · intro D hid h0 hp hs rest hK
      obtain ⟨d5, d18, d19, -⟩ : AllD D false [5, 18, 19] := ideal_sub hs (by decide +kernel)
      simp only [d5, d18, d19, h0, cond_true, cond_false]
      refine Run.go rfl ?_
      refine Run.le ?_ hK
      simp only [d5, d18, d19, h0, Nat.reduceBEq, Bool.false_or, Bool.true_or, cond_true, cond_false]
      exact St.Le.mk' ⟨rfl, rfl, rfl, rfl, rfl, rfl, rfl, rfl, rfl, rfl, rfl, rfl, rfl, rfl, rfl, rfl, rfl, rfl, rfl, rfl, rfl, rfl, rfl, rfl, rfl, trivial⟩ ⟨rfl, rfl, trivial⟩
    · intro D hid h0 hp hs rest hK
      obtain ⟨d3, d4, -⟩ : AllD D true [3, 4] := ideal_sub hp (by decide +kernel)
      obtain ⟨d18, d19, -⟩ : AllD D false [18, 19] := ideal_sub hs (by decide +kernel)
      simp only [d3, d4, d18, d19, h0, cond_true, cond_false]
      refine Run.go rfl ?_
      rw [hwq]
      refine Run.le ?_ hK
      simp only [d3, d4, d18, d19, h0, Nat.reduceBEq, Bool.false_or, Bool.true_or, cond_true, cond_false]
      exact St.Le.mk' ⟨rfl, rfl, rfl, rfl, rfl, rfl, rfl, rfl, rfl, rfl, rfl, rfl, rfl, rfl, rfl, rfl, rfl, rfl, rfl, rfl, rfl, rfl, rfl, rfl, rfl, trivial⟩ ⟨rfl, rfl, trivial⟩
    · intro D hid h0 hp hs rest hK
      obtain ⟨d10, d16, d17, d18, d19, -⟩ : AllD D false [10, 16, 17, 18, 19] := ideal_sub hs (by decide +kernel)
      simp only [d10, d16, d17, d18, d19, h0, cond_true, cond_false]
      refine Run.go rfl ?_
      refine Run.le ?_ hK
      simp only [d10, d16, d17, d18, d19, h0, Nat.reduceBEq, Bool.false_or, Bool.true_or, cond_true, cond_false]
      exact St.Le.mk' ⟨rfl, rfl, rfl, rfl, rfl, rfl, rfl, rfl, rfl, rfl, rfl, rfl, rfl, rfl, rfl, rfl, rfl, rfl, rfl, rfl, rfl, rfl, rfl, rfl, rfl, trivial⟩ ⟨rfl, rfl, trivial⟩
    · intro D hid h0 hp hs rest hK
      obtain ⟨d9, d16, d17, d18, d19, -⟩ : AllD D false [9, 16, 17, 18, 19] := ideal_sub hs (by decide +kernel)
      simp only [d9, d16, d17, d18, d19, h0, cond_true, cond_false]
      refine Run.go rfl ?_
      refine Run.le ?_ hK
      simp only [d9, d16, d17, d18, d19, h0, Nat.reduceBEq, Bool.false_or, Bool.true_or, cond_true, cond_false]
      exact St.Le.mk' ⟨rfl, rfl, rfl, rfl, rfl, rfl, rfl, rfl, rfl, rfl, rfl, rfl, rfl, rfl, rfl, rfl, rfl, rfl, rfl, rfl, rfl, rfl, rfl, rfl, rfl, trivial⟩ ⟨rfl, rfl, trivial⟩
    · intro D hid h0 hp hs rest hK
      obtain ⟨d9, d16, d17, d18, d19, -⟩ : AllD D false [9, 16, 17, 18, 19] := ideal_sub hs (by decide +kernel)
      simp only [d9, d16, d17, d18, d19, h0, cond_true, cond_false]
      refine Run.go rfl ?_
      refine Run.le ?_ hK
      simp only [d9, d16, d17, d18, d19, h0, Nat.reduceBEq, Bool.false_or, Bool.true_or, cond_true, cond_false]
      exact St.Le.mk' ⟨rfl, rfl, rfl, rfl, rfl, rfl, rfl, rfl, rfl, rfl, rfl, rfl, rfl, rfl, rfl, rfl, rfl, rfl, rfl, rfl, rfl, rfl, rfl, rfl, rfl, trivial⟩ ⟨rfl, rfl, trivial⟩
    · intro D hid h0 hp hs rest hK
      obtain ⟨d7, d8, -⟩ : AllD D true [7, 8] := ideal_sub hp (by decide +kernel)
      obtain ⟨d10, d16, d17, d18, d19, -⟩ : AllD D false [10, 16, 17, 18, 19] := ideal_sub hs (by decide +kernel)
      simp only [d7, d8, d10, d16, d17, d18, d19, h0, cond_true, cond_false]
      refine Run.go rfl ?_
      rw [hwq]
      refine Run.le ?_ hK
      simp only [d7, d8, d10, d16, d17, d18, d19, h0, Nat.reduceBEq, Bool.false_or, Bool.true_or, cond_true, cond_false]
      exact St.Le.mk' ⟨rfl, rfl, rfl, rfl, rfl, rfl, rfl, rfl, rfl, rfl, rfl, rfl, rfl, rfl, rfl, rfl, rfl, rfl, rfl, rfl, rfl, rfl, rfl, rfl, rfl, trivial⟩ ⟨rfl, rfl, trivial⟩
    · intro D hid h0 hp hs rest hK
      obtain ⟨d6, d9, -⟩ : AllD D true [6, 9] := ideal_sub hp (by decide +kernel)
      obtain ⟨d11, d16, d17, d18, d19, -⟩ : AllD D false [11, 16, 17, 18, 19] := ideal_sub hs (by decide +kernel)
      simp only [d6, d9, d11, d16, d17, d18, d19, h0, cond_true, cond_false]
      refine Run.val rfl rfl rfl (ValOk.idxv rfl rfl rfl rfl rfl rfl (by omega) (by omega)) rfl ?_
      refine Run.le ?_ hK
      simp only [d6, d9, d11, d16, d17, d18, d19, h0, Nat.reduceBEq, Bool.false_or, Bool.true_or, cond_true, cond_false]
      exact St.Le.mk' ⟨rfl, rfl, rfl, rfl, rfl, rfl, rfl, rfl, rfl, rfl, rfl, rfl, rfl, rfl, rfl, rfl, rfl, rfl, rfl, rfl, rfl, rfl, rfl, rfl, rfl, trivial⟩ ⟨rfl, rfl, trivial⟩
    · intro D hid h0 hp hs rest hK
      obtain ⟨d10, -⟩ : AllD D true [10] := ideal_sub hp (by decide +kernel)
      obtain ⟨d16, d17, d18, d19, -⟩ : AllD D false [16, 17, 18, 19] := ideal_sub hs (by decide +kernel)
      simp only [d10, d16, d17, d18, d19, h0, cond_true, cond_false]
      refine Run.val rfl rfl rfl (ValOk.loadv (i64 (A.getD (a + q) 0)) rfl rfl rfl rfl hyj rfl) rfl ?_
      refine Run.le ?_ hK
      simp only [d10, d16, d17, d18, d19, h0, Nat.reduceBEq, Bool.false_or, Bool.true_or, cond_true, cond_false]
      exact St.Le.mk' ⟨rfl, rfl, rfl, rfl, rfl, rfl, rfl, rfl, rfl, rfl, rfl, rfl, rfl, rfl, rfl, rfl, rfl, rfl, rfl, rfl, rfl, rfl, rfl, rfl, rfl, trivial⟩ ⟨rfl, rfl, trivial⟩
    · intro D hid h0 hp hs rest hK
      obtain ⟨d14, d18, d19, -⟩ : AllD D false [14, 18, 19] := ideal_sub hs (by decide +kernel)
      simp only [d14, d18, d19, h0, cond_true, cond_false]
      refine Run.go rfl ?_
      refine Run.le ?_ hK
      simp only [d14, d18, d19, h0, Nat.reduceBEq, Bool.false_or, Bool.true_or, cond_true, cond_false]
      exact St.Le.mk' ⟨rfl, rfl, rfl, rfl, rfl, rfl, rfl, rfl, rfl, rfl, rfl, rfl, rfl, rfl, rfl, rfl, rfl, rfl, rfl, rfl, rfl, rfl, rfl, rfl, rfl, trivial⟩ ⟨rfl, rfl, trivial⟩
    · intro D hid h0 hp hs rest hK
      obtain ⟨d14, d18, d19, -⟩ : AllD D false [14, 18, 19] := ideal_sub hs (by decide +kernel)
      simp only [d14, d18, d19, h0, cond_true, cond_false]
      refine Run.go rfl ?_
      refine Run.le ?_ hK
      simp only [d14, d18, d19, h0, Nat.reduceBEq, Bool.false_or, Bool.true_or, cond_true, cond_false]
      exact St.Le.mk' ⟨rfl, rfl, rfl, rfl, rfl, rfl, rfl, rfl, rfl, rfl, rfl, rfl, rfl, rfl, rfl, rfl, rfl, rfl, rfl, rfl, rfl, rfl, rfl, rfl, rfl, trivial⟩ ⟨rfl, rfl, trivial⟩
    · intro D hid h0 hp hs rest hK
      obtain ⟨d12, d13, -⟩ : AllD D true [12, 13] := ideal_sub hp (by decide +kernel)
      obtain ⟨d15, d18, d19, -⟩ : AllD D false [15, 18, 19] := ideal_sub hs (by decide +kernel)
      have d17 : D 17 = false := ideal_no (i := 17) (j := 15) hid (by decide +kernel) d15
      simp only [d12, d13, d15, d18, d19, d17, h0, cond_true, cond_false]
      refine Run.val rfl rfl rfl (ValOk.idxv rfl rfl rfl rfl rfl rfl (by omega) (by omega)) rfl ?_
      refine Run.le ?_ hK
      simp only [d12, d13, d15, d18, d19, d17, h0, Nat.reduceBEq, Bool.false_or, Bool.true_or, cond_true, cond_false]
      exact St.Le.mk' ⟨rfl, rfl, rfl, rfl, rfl, rfl, rfl, rfl, rfl, rfl, rfl, rfl, rfl, rfl, rfl, rfl, rfl, rfl, rfl, rfl, rfl, rfl, rfl, rfl, rfl, trivial⟩ ⟨rfl, rfl, trivial⟩
    · intro D hid h0 hp hs rest hK
      obtain ⟨d14, -⟩ : AllD D true [14] := ideal_sub hp (by decide +kernel)
      obtain ⟨d16, d17, d18, d19, -⟩ : AllD D false [16, 17, 18, 19] := ideal_sub hs (by decide +kernel)
      simp only [d14, d16, d17, d18, d19, h0, cond_true, cond_false]
      refine Run.val rfl rfl rfl (ValOk.loadv (i64 (A.getD (a) 0)) rfl rfl rfl rfl hyi rfl) rfl ?_
      refine Run.le ?_ hK
      simp only [d14, d16, d17, d18, d19, h0, Nat.reduceBEq, Bool.false_or, Bool.true_or, cond_true, cond_false]
      exact St.Le.mk' ⟨rfl, rfl, rfl, rfl, rfl, rfl, rfl, rfl, rfl, rfl, rfl, rfl, rfl, rfl, rfl, rfl, rfl, rfl, rfl, rfl, rfl, rfl, rfl, rfl, rfl, trivial⟩ ⟨rfl, rfl, trivial⟩
    · intro D hid h0 hp hs rest hK
      obtain ⟨d0, d1, d6, d7, d8, d9, d10, d11, d15, -⟩ : AllD D true [0, 1, 6, 7, 8, 9, 10, 11, 15] := ideal_sub hp (by decide +kernel)
      obtain ⟨d17, d18, d19, -⟩ : AllD D false [17, 18, 19] := ideal_sub hs (by decide +kernel)
      simp only [d0, d1, d6, d7, d8, d9, d10, d11, d15, d17, d18, d19, h0, cond_true, cond_false]
      refine Run.val rfl rfl rfl (ValOk.idxv rfl rfl rfl rfl rfl rfl (by omega) (by omega)) rfl ?_
      refine Run.le ?_ hK
      simp only [d0, d1, d6, d7, d8, d9, d10, d11, d15, d17, d18, d19, h0, Nat.reduceBEq, Bool.false_or, Bool.true_or, cond_true, cond_false]
      exact St.Le.mk' ⟨rfl, rfl, rfl, rfl, rfl, rfl, rfl, rfl, rfl, rfl, rfl, rfl, rfl, rfl, rfl, rfl, rfl, rfl, rfl, rfl, rfl, rfl, rfl, rfl, rfl, trivial⟩ ⟨rfl, rfl, trivial⟩
    · intro D hid h0 hp hs rest hK
      obtain ⟨d0, d1, d6, d7, d8, d9, d10, d11, d15, d16, -⟩ : AllD D true [0, 1, 6, 7, 8, 9, 10, 11, 15, 16] := ideal_sub hp (by decide +kernel)
      obtain ⟨d18, d19, -⟩ : AllD D false [18, 19] := ideal_sub hs (by decide +kernel)
      simp only [d0, d1, d6, d7, d8, d9, d10, d11, d15, d16, d18, d19, h0, cond_true, cond_false]
      refine Run.storee (i64 (A.getD (a) 0)) (i64 (A.getD (a + q) 0)) rfl rfl rfl rfl rfl rfl rfl hyi rfl rfl rfl ?_
      refine Run.le ?_ hK
      simp only [d0, d1, d6, d7, d8, d9, d10, d11, d15, d16, d18, d19, h0, Nat.reduceBEq, Bool.false_or, Bool.true_or, cond_true, cond_false]
      exact St.Le.mk' ⟨rfl, rfl, rfl, rfl, rfl, rfl, rfl, rfl, rfl, rfl, rfl, rfl, rfl, rfl, rfl, rfl, rfl, rfl, rfl, rfl, rfl, rfl, rfl, rfl, rfl, trivial⟩ ⟨rfl, rfl, trivial⟩
    · intro D hid h0 hp hs rest hK
      obtain ⟨d0, d1, d2, d3, d4, d5, d6, d7, d8, d9, d10, d11, d12, d13, d14, d15, d16, d17, -⟩ : AllD D true [0, 1, 2, 3, 4, 5, 6, 7, 8, 9, 10, 11, 12, 13, 14, 15, 16, 17] := ideal_sub hp (by decide +kernel)
      obtain ⟨d19, -⟩ : AllD D false [19] := ideal_sub hs (by decide +kernel)
      simp only [d0, d1, d2, d3, d4, d5, d6, d7, d8, d9, d10, d11, d12, d13, d14, d15, d16, d17, d19, h0, cond_true, cond_false]
      refine Run.val rfl rfl rfl (ValOk.idxv rfl rfl rfl rfl rfl rfl (by omega) (by omega)) rfl ?_
      refine Run.le ?_ hK
      simp only [d0, d1, d2, d3, d4, d5, d6, d7, d8, d9, d10, d11, d12, d13, d14, d15, d16, d17, d19, h0, Nat.reduceBEq, Bool.false_or, Bool.true_or, cond_true, cond_false]
      exact St.Le.mk' ⟨rfl, rfl, rfl, rfl, rfl, rfl, rfl, rfl, rfl, rfl, rfl, rfl, rfl, rfl, rfl, rfl, rfl, rfl, rfl, rfl, rfl, rfl, rfl, rfl, rfl, trivial⟩ ⟨rfl, rfl, trivial⟩
    · intro D hid h0 hp hs rest hK
      obtain ⟨d0, d1, d2, d3, d4, d5, d6, d7, d8, d9, d10, d11, d12, d13, d14, d15, d16, d17, d18, -⟩ : AllD D true [0, 1, 2, 3, 4, 5, 6, 7, 8, 9, 10, 11, 12, 13, 14, 15, 16, 17, 18] := ideal_sub hp (by decide +kernel)
      simp only [d0, d1, d2, d3, d4, d5, d6, d7, d8, d9, d10, d11, d12, d13, d14, d15, d16, d17, d18, h0, cond_true, cond_false]
      refine Run.storee (i64 (A.getD (a + q) 0)) (i64 (A.getD (a) 0)) rfl rfl rfl rfl rfl rfl rfl hyj2 rfl rfl rfl ?_
      refine Run.le ?_ hK
      simp only [d0, d1, d2, d3, d4, d5, d6, d7, d8, d9, d10, d11, d12, d13, d14, d15, d16, d17, d18, h0, Nat.reduceBEq, Bool.false_or, Bool.true_or, cond_true, cond_false]
      exact St.Le.mk' ⟨rfl, rfl, rfl, rfl, rfl, rfl, rfl, rfl, rfl, rfl, rfl, rfl, rfl, rfl, rfl, rfl, rfl, rfl, rfl, rfl, rfl, rfl, rfl, rfl, rfl, trivial⟩ ⟨rfl, rfl, trivial⟩
    refine Run.of (st' := ⟨[(0, .vec lid 0 n), (1, i64 (a : Nat)), (2, i64 (b : Nat)), (6, i64 (a : Nat)), (7, i64 0), (8, i64 (h : Nat)), (10, i64 (q : Nat))], [(lid, .vec 1 e ((sZ A (a) (a + q)).map i64)), (lidT, .tie v0 lid)]⟩) ?_ ⟨rfl, rfl, rfl, rfl, rfl, rfl, rfl, trivial⟩ ⟨?_, rfl, trivial⟩
    rotate_left
    · exact congrArg (Ob.vec 1 e) (sZ_map A (a) (a + q))
    unfold Nxt
    have hAl2 : (sZ A a (a + q)).length = n := by rw [sZ_len, hAl]
    repeat (refine Run.go rfl ?_)
    refine Run.callE lid rfl rfl rfl rfl rfl rfl rfl rfl (sift_ct n (sZ A a (a + q)) e 0 q a hAl2 hn1 (by omega) (by omega) (heap_rest hhp)) rfl rfl fun B hB => ?_
    have hpop := heap_pop (by omega) (by omega) hhp hss hlt hB.1
    repeat (refine Run.go rfl ?_)
    refine Run.of (IH (q, B) ⟨by show q ≤ h; omega, (PS.step hps (by omega) (by omega) (by omega) (by omega) (by omega)).trans (hB.1.mono (by omega) (by omega) (by omega)), hB.2, hpop.1, hpop.2⟩ (by show q < q + 1; omega)) ⟨rfl, rfl, rfl, rfl, rfl, rfl, ?_, trivial⟩ ⟨rfl, rfl, trivial⟩
    show i64 _ = i64 _
    rw [hq2]
  have hc : decide ((0 : Int) ≤ (m : Nat) - 1) = false := hc
  obtain rfl : m = 0 := by have := of_decide_eq_false hc; omega
  repeat (refine Run.go rfl ?_)
  exact Run.finE A ⟨hps, by simpa using hss⟩ hg rfl rfl rfl rfl rfl rfl
end Go.Proofs.Ytcfkdcjindhnjaa
