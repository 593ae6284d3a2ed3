/- Contracts of the program's functions, and what follows from them. -/
import Derived.Test.YtcfkdcjindhnjaaGreatK33
set_option linter.unusedVariables false
set_option maxRecDepth 100000
set_option linter.unusedSimpArgs false
namespace Go.Proofs.YtcfkdcjindhnjaaGreat
open Go Go.Av

/-! Short lists of numbers: sorted. -/

theorem srt_uniq : ∀ {a b : List Int}, a.Perm b → a.Pairwise (· ≤ ·) → b.Pairwise (· ≤ ·) → a = b
  | [], b, hp, _, _ => hp.nil_eq
  | x :: r, [], hp, _, _ => by have := hp.length_eq; simp at this
  | x :: r, y :: t, hp, h1, h2 => by
    obtain ⟨a1, a2⟩ := List.pairwise_cons.1 h1
    obtain ⟨b1, b2⟩ := List.pairwise_cons.1 h2
    have e : x = y := by
      have m1 : y ∈ x :: r := hp.mem_iff.2 (by simp)
      have m2 : x ∈ y :: t := hp.mem_iff.1 (by simp)
      rcases List.mem_cons.1 m1 with e | e
      · exact e.symm
      · rcases List.mem_cons.1 m2 with e2 | e2
        · exact e2
        · have := a1 _ e
          have := b1 _ e2
          omega
    subst e
    rw [srt_uniq (List.Perm.cons_inv hp) a2 b2]
def srtI (l : List Int) : List Int := l.mergeSort fun x y => decide (x ≤ y)
theorem srtI_perm (l : List Int) : (srtI l).Perm l := List.mergeSort_perm l _
theorem srtI_srt (l : List Int) : (srtI l).Pairwise (· ≤ ·) := by
  have := List.pairwise_mergeSort (le := fun x y : Int => decide (x ≤ y)) (fun a b c h1 h2 => by simp at *; omega) (fun a b => by simp; omega) l
  exact this.imp fun h => by simpa using h
theorem srtI_eq {l S : List Int} (hp : S.Perm l) (hs : S.Pairwise (· ≤ ·)) : S = srtI l := srt_uniq (hp.trans (srtI_perm l).symm) hs (srtI_srt l)

/-- A number on its way to its place. -/
def inA (S : List Int) (x : Int) (j : Nat) (R : List Int) : List Int := S.take j ++ x :: (S.drop j ++ R)
theorem inA_len (S : List Int) (x : Int) (j : Nat) (R : List Int) (hj : j ≤ S.length) : (inA S x j R).length = S.length + 1 + R.length := by
  simp [inA, List.length_take, Nat.min_eq_left hj]
  omega
theorem inA_at {S : List Int} {x : Int} {j : Nat} {R : List Int} (hj : j ≤ S.length) : (inA S x j R)[j]? = some x := by
  rw [inA, List.getElem?_append_right (by rw [List.length_take, Nat.min_eq_left hj]; exact Nat.le_refl _), List.length_take, Nat.min_eq_left hj, Nat.sub_self]
  rfl
theorem inA_pre {S : List Int} {x : Int} {j : Nat} {R : List Int} (hj : j + 1 ≤ S.length) : (inA S x (j + 1) R)[j]? = some (S.getD j 0) := by
  rw [inA, List.getElem?_append_left (by rw [List.length_take]; omega), List.getElem?_take, if_pos (by omega), getD_at (by omega)]
theorem inA_step {S : List Int} {x : Int} {j : Nat} {R : List Int} (hj : j + 1 ≤ S.length) : ((inA S x (j + 1) R).set (j + 1) (S.getD j 0)).set j x = inA S x j R := by
  have hlt : j < S.length := by omega
  have e : S.getD j 0 = S[j] := by rw [List.getD_eq_getElem?_getD, List.getElem?_eq_getElem hlt]; rfl
  have e2 : S.drop j = S[j] :: S.drop (j + 1) := List.drop_eq_getElem_cons hlt
  have hl : (S.take j).length = j := by rw [List.length_take]; omega
  unfold inA
  rw [List.take_succ_eq_append_getElem hlt, e2, e, List.append_assoc, List.cons_append, List.nil_append, List.cons_append]
  generalize S.take j = T at hl
  generalize S[j] = y
  generalize S.drop (j + 1) ++ R = Q
  rw [List.set_append_right _ _ (by omega), hl, show j + 1 - j = 1 by omega]
  rw [List.set_append_right _ _ (by omega), hl, Nat.sub_self]
  rfl

noncomputable def X85 : Fx := ⟨Tryz.prog, tys, 85, Tryz.f85, [0, 1, 2]⟩
theorem X85_ok : X85.Ok := ⟨Tryz.func85, tys_ok⟩
set_option maxHeartbeats 2000000 in
theorem insSort_ct (l : List Int) (e : Bool) (hl : l.length ≤ 1000) : CtG Tryz.prog 85 [.vec lid 0 (l.map i64).length, i64 0, i64 (l.map i64).length] (.vec 1 e (l.map i64)) (.tup []) (.vec 1 e ((srtI l).map i64)) := by
  have hml : ((l.map i64).length : Nat) = l.length := List.length_map ..
  rw [hml]
  refine CtG.intro X85 X85_ok rfl (by kernel_rfl) rfl rfl rfl rfl rfl fun g v0 hg => ?_
  repeat (refine Run.go rfl ?_)
  refine Run.loop (fun z : Nat × List Int => ⟨[(0, .vec lid 0 l.length), (1, i64 0), (2, i64 l.length), (6, i64 ((z.1 : Nat) + 1 : Int))], [(lid, .vec 1 e ((z.2 ++ l.drop (z.1 + 1)).map i64)), (lidT, .tie v0 lid)]⟩)
    (fun z => z.2.Perm (l.take (z.1 + 1)) ∧ z.2.Pairwise (· ≤ ·) ∧ z.1 ≤ l.length) (fun z => l.length - z.1) (0, l.take 1) ⟨List.Perm.refl _, by
      cases l with
      | nil => simp
      | cons x r => simp, by simp⟩ ?_ ?_
  · refine St.Le.mk' ⟨rfl, rfl, rfl, rfl, trivial⟩ ⟨?_, rfl, trivial⟩
    show Ob.vec 1 e (l.map i64) = Ob.vec 1 e ((l.take 1 ++ l.drop 1).map i64)
    rw [List.take_append_drop]
  rintro ⟨i, S⟩ ⟨hp, hs, hi⟩ IH
  dsimp only at hp hs hi ⊢
  repeat (refine Run.go rfl ?_)
  refine Run.cond rfl (fun h => ?_) (fun h => ?_)
  · have hlt : i + 1 < l.length := by have := of_decide_eq_true h; omega
    have hSl : S.length = i + 1 := by rw [hp.length_eq, List.length_take]; omega
    obtain ⟨x, hx⟩ : ∃ x, x = l[i + 1] := ⟨_, rfl⟩
    obtain ⟨R, hR⟩ : ∃ R, R = l.drop (i + 2) := ⟨_, rfl⟩
    have hd : l.drop (i + 1) = x :: R := by rw [List.drop_eq_getElem_cons hlt, hx, hR]
    have hRl : R.length + (i + 2) = l.length := by rw [hR, List.length_drop]; omega
    repeat (refine Run.go rfl ?_)
    refine Run.loop (fun j : Nat => ⟨[(0, .vec lid 0 l.length), (1, i64 0), (2, i64 l.length), (6, i64 ((i : Nat) + 1 : Int)), (7, i64 (j : Nat))], [(lid, .vec 1 e ((inA S x j R).map i64)), (lidT, .tie v0 lid)]⟩)
      (fun j => j ≤ S.length ∧ ∀ y ∈ S.drop j, x ≤ y) (fun j => j) S.length ⟨Nat.le_refl _, by simp⟩ ?_ ?_
    · refine St.Le.mk' ⟨rfl, rfl, rfl, rfl, ?_, trivial⟩ ⟨?_, rfl, trivial⟩
      · show i64 _ = i64 _
        rw [hSl]; rfl
      · show Ob.vec _ _ _ = Ob.vec _ _ _
        rw [inA, List.take_length, List.drop_length, List.nil_append, ← hd]
    rintro j ⟨hj, hjy⟩ IH2
    have hlen := inA_len S x j R hj
    have hal : (inA S x j R).length = l.length := by omega
    have hmA : ((inA S x j R).map i64).length = l.length := by rw [List.length_map, hal]
    repeat (refine Run.go rfl ?_)
    refine Run.drawS ⟨[(0, .vec lid 0 l.length), (1, i64 0), (2, i64 l.length), (6, i64 ((i : Nat) + 1 : Int)), (7, i64 (j : Nat)), (30, bo (decide (0 < j) && decide (x < S.getD (j - 1) 0)))], [(lid, .vec 1 e ((inA S x j R).map i64)), (lidT, .tie v0 lid)]⟩ rfl (by kernel_rfl) ?_ ?_
    · repeat (refine Quiet.go rfl ?_)
      refine Quiet.bool 19 rfl (fun h => ?_) (fun h => ?_)
      · have h0 : 0 < j := by have := of_decide_eq_true h; omega
        have hy1 : ((inA S x j R).map i64)[0 + ((j : Nat) : Int).toNat]? = some (i64 x) := by rw [Nat.zero_add, Int.toNat_natCast, List.getElem?_map, inA_at hj]; rfl
        have hy2 : ((inA S x j R).map i64)[0 + (((j - 1 : Nat) : Nat) : Int).toNat]? = some (i64 (S.getD (j - 1) 0)) := by
          obtain ⟨q, rfl⟩ : ∃ q, j = q + 1 := ⟨j - 1, by omega⟩
          rw [Nat.zero_add, Int.toNat_natCast, List.getElem?_map, Nat.add_sub_cancel, inA_pre hj]; rfl
        have hw : IntKind.i64.wrap (((j : Nat) : Int) - 1) = ((j - 1 : Nat) : Int) := by rw [wrap_i64 (by omega) (by omega)]; omega
        repeat (refine Quiet.go rfl ?_)
        refine Quiet.val rfl rfl (ValOk.idxv rfl rfl rfl rfl rfl rfl (by omega) (by omega)) rfl ?_
        repeat (refine Quiet.go rfl ?_)
        refine Quiet.val rfl rfl (ValOk.loadv (i64 x) rfl rfl rfl rfl hy1 rfl) rfl ?_
        repeat (refine Quiet.go rfl ?_)
        rw [hw]
        refine Quiet.val rfl rfl (ValOk.idxv rfl rfl rfl rfl rfl rfl (by omega) (by omega)) rfl ?_
        repeat (refine Quiet.go rfl ?_)
        refine Quiet.val rfl rfl (ValOk.loadv (i64 (S.getD (j - 1) 0)) rfl rfl rfl rfl hy2 rfl) rfl ?_
        repeat (refine Quiet.go rfl ?_)
        refine Quiet.cs rfl rfl rfl rfl rfl (lessI_ct x (S.getD (j - 1) 0)) rfl rfl ?_
        repeat (refine Quiet.go rfl ?_)
        refine Quiet.nil (St.Le.mk' ⟨rfl, rfl, rfl, rfl, rfl, ?_, trivial⟩ ⟨rfl, rfl, trivial⟩)
        show bo (decide (x < S.getD (j - 1) 0)) = _
        rw [decide_eq_true h0, Bool.true_and]
      · have h0 : ¬ 0 < j := by have := of_decide_eq_false h; omega
        repeat (refine Quiet.go rfl ?_)
        refine Quiet.nil (St.Le.mk' ⟨rfl, rfl, rfl, rfl, rfl, ?_, trivial⟩ ⟨rfl, rfl, trivial⟩)
        show bo false = _
        rw [decide_eq_false h0, Bool.false_and]
    refine Run.cond rfl (fun h => ?_) (fun h => ?_)
    · have h : 0 < j ∧ x < S.getD (j - 1) 0 := by simpa using h
      obtain ⟨q, rfl⟩ : ∃ q, j = q + 1 := ⟨j - 1, by omega⟩
      rw [Nat.add_sub_cancel] at h
      obtain ⟨y, hy⟩ : ∃ y, y = S.getD q 0 := ⟨_, rfl⟩
      have hstep := inA_step (S := S) (x := x) (R := R) hj
      have hyi : ((inA S x (q + 1) R).map i64)[0 + ((q + 1 : Nat) : Int).toNat]? = some (i64 x) := by rw [Nat.zero_add, Int.toNat_natCast, List.getElem?_map, inA_at hj]; rfl
      have hyj : ((inA S x (q + 1) R).map i64)[0 + ((q : Nat) : Int).toNat]? = some (i64 y) := by rw [Nat.zero_add, Int.toNat_natCast, List.getElem?_map, inA_pre hj, hy]; rfl
      have hyj2 : (((inA S x (q + 1) R).map i64).set (0 + ((q + 1 : Nat) : Int).toNat) (i64 y))[0 + ((q : Nat) : Int).toNat]? = some (i64 y) := by
        rw [List.getElem?_set, if_neg (by omega)]
        exact hyj
      have hw : IntKind.i64.wrap (((q + 1 : Nat) : Int) - 1) = ((q : Nat) : Int) := by rw [wrap_i64 (by omega) (by omega)]; omega
      have IH3 := IH2 q ⟨by omega, fun z hz => by
        rw [List.drop_eq_getElem_cons (show q < S.length by omega)] at hz
        rcases List.mem_cons.1 hz with e2 | e2
        · have : S.getD q 0 = S[q] := by rw [List.getD_eq_getElem?_getD, List.getElem?_eq_getElem (show q < S.length by omega)]; rfl
          omega
        · exact hjy z e2⟩ (by omega)
      rw [← hstep, ← hy] at IH3
      generalize hA : inA S x (q + 1) R = A at *
      repeat (refine Run.go rfl ?_)
      refine Run.of (st' := ⟨[(0, .vec lid 0 l.length), (1, i64 0), (2, i64 l.length), (6, i64 ((i : Nat) + 1 : Int)), (7, i64 (q + 1 : Nat))], [(lid, .vec 1 e (A.map i64)), (lidT, .tie v0 lid)]⟩) ?_ ⟨rfl, rfl, rfl, rfl, rfl, trivial⟩ ⟨rfl, rfl, trivial⟩
      unfold Nxt
      refine Run.drawI (fun D => ⟨[(0, .vec lid 0 l.length), (1, i64 0), (2, i64 l.length), (6, i64 ((i : Nat) + 1 : Int)), (7, i64 (q + 1 : Nat)), (33, bif D 0 then .vec lid 0 l.length else .top), (34, bif D 1 then i64 (q + 1 : Nat) else .top), (35, bif D 2 then .vec lid 0 l.length else .top), (36, bif D 3 then i64 (q + 1 : Nat) else .top), (37, bif D 4 then i64 (q : Nat) else .top), (38, bif D 5 then .vec lid 0 l.length else .top), (39, bif D 6 then i64 (q + 1 : Nat) else .top), (40, bif D 7 then i64 (q : Nat) else .top), (41, bif D 8 then .ep lid (0 + ((q : Nat) : Int).toNat) 0 else .top), (42, bif D 9 then i64 y else .top), (43, bif D 10 then .vec lid 0 l.length else .top), (44, bif D 11 then i64 (q + 1 : Nat) else .top), (45, bif D 12 then .ep lid (0 + ((q + 1 : Nat) : Int).toNat) 0 else .top), (46, bif D 13 then i64 x else .top), (47, bif D 14 then .ep lid (0 + ((q + 1 : Nat) : Int).toNat) 0 else .top), (48, bif D 16 then .ep lid (0 + ((q : Nat) : Int).toNat) 0 else .top)], [(lid, (bif D 17 then Ob.vec 1 e (((A.map i64).set (0 + ((q + 1 : Nat) : Int).toNat) (i64 y)).set (0 + ((q : Nat) : Int).toNat) (i64 x)) else (bif D 15 then Ob.vec 1 e ((A.map i64).set (0 + ((q + 1 : Nat) : Int).toNat) (i64 y)) else Ob.vec 1 e (A.map i64)))), (lidT, Ob.tie v0 lid)]⟩) (by decide +kernel) (by decide +kernel) ?_ ?_ fun k' => ⟨?_, ?_, ?_, ?_, ?_, ?_, ?_, ?_, ?_, ?_, ?_, ?_, ?_, ?_, ?_, ?_, ?_, ?_, trivial⟩
      · exact St.Le.mk' ⟨rfl, rfl, rfl, rfl, rfl, rfl, rfl, rfl, rfl, rfl, rfl, rfl, rfl, rfl, rfl, rfl, rfl, rfl, rfl, rfl, rfl, trivial⟩ ⟨rfl, rfl, trivial⟩
      rotate_left
      · intro D hid h0 hp hs rest hK
        obtain ⟨d14, d15, d16, d17, -⟩ : AllD D false [14, 15, 16, 17] := ideal_sub hs (by decide +kernel)
        simp only [d14, d15, d16, d17, h0, cond_true, cond_false]
        refine Run.go rfl ?_
        refine Run.le ?_ hK
        simp only [d14, d15, d16, d17, h0, Nat.reduceBEq, Bool.false_or, Bool.true_or, cond_true, cond_false]
        exact St.Le.mk' ⟨rfl, rfl, rfl, rfl, rfl, rfl, rfl, rfl, rfl, rfl, rfl, rfl, rfl, rfl, rfl, rfl, rfl, rfl, rfl, rfl, rfl, trivial⟩ ⟨rfl, rfl, trivial⟩
      · intro D hid h0 hp hs rest hK
        obtain ⟨d14, d15, d16, d17, -⟩ : AllD D false [14, 15, 16, 17] := ideal_sub hs (by decide +kernel)
        simp only [d14, d15, d16, d17, h0, cond_true, cond_false]
        refine Run.go rfl ?_
        refine Run.le ?_ hK
        simp only [d14, d15, d16, d17, h0, Nat.reduceBEq, Bool.false_or, Bool.true_or, cond_true, cond_false]
        exact St.Le.mk' ⟨rfl, rfl, rfl, rfl, rfl, rfl, rfl, rfl, rfl, rfl, rfl, rfl, rfl, rfl, rfl, rfl, rfl, rfl, rfl, rfl, rfl, trivial⟩ ⟨rfl, rfl, trivial⟩
      · intro D hid h0 hp hs rest hK
        obtain ⟨d16, d17, -⟩ : AllD D false [16, 17] := ideal_sub hs (by decide +kernel)
        simp only [d16, d17, h0, cond_true, cond_false]
        refine Run.go rfl ?_
        refine Run.le ?_ hK
        simp only [d16, d17, h0, Nat.reduceBEq, Bool.false_or, Bool.true_or, cond_true, cond_false]
        exact St.Le.mk' ⟨rfl, rfl, rfl, rfl, rfl, rfl, rfl, rfl, rfl, rfl, rfl, rfl, rfl, rfl, rfl, rfl, rfl, rfl, rfl, rfl, rfl, trivial⟩ ⟨rfl, rfl, trivial⟩
      · intro D hid h0 hp hs rest hK
        obtain ⟨d4, d16, d17, -⟩ : AllD D false [4, 16, 17] := ideal_sub hs (by decide +kernel)
        simp only [d4, d16, d17, h0, cond_true, cond_false]
        refine Run.go rfl ?_
        refine Run.le ?_ hK
        simp only [d4, d16, d17, h0, Nat.reduceBEq, Bool.false_or, Bool.true_or, cond_true, cond_false]
        exact St.Le.mk' ⟨rfl, rfl, rfl, rfl, rfl, rfl, rfl, rfl, rfl, rfl, rfl, rfl, rfl, rfl, rfl, rfl, rfl, rfl, rfl, rfl, rfl, trivial⟩ ⟨rfl, rfl, trivial⟩
      · intro D hid h0 hp hs rest hK
        obtain ⟨d3, -⟩ : AllD D true [3] := ideal_sub hp (by decide +kernel)
        obtain ⟨d16, d17, -⟩ : AllD D false [16, 17] := ideal_sub hs (by decide +kernel)
        simp only [d3, d16, d17, h0, cond_true, cond_false]
        refine Run.go rfl ?_
        rw [hw]
        refine Run.le ?_ hK
        simp only [d3, d16, d17, h0, Nat.reduceBEq, Bool.false_or, Bool.true_or, cond_true, cond_false]
        exact St.Le.mk' ⟨rfl, rfl, rfl, rfl, rfl, rfl, rfl, rfl, rfl, rfl, rfl, rfl, rfl, rfl, rfl, rfl, rfl, rfl, rfl, rfl, rfl, trivial⟩ ⟨rfl, rfl, trivial⟩
      · intro D hid h0 hp hs rest hK
        obtain ⟨d8, d14, d15, d16, d17, -⟩ : AllD D false [8, 14, 15, 16, 17] := ideal_sub hs (by decide +kernel)
        simp only [d8, d14, d15, d16, d17, h0, cond_true, cond_false]
        refine Run.go rfl ?_
        refine Run.le ?_ hK
        simp only [d8, d14, d15, d16, d17, h0, Nat.reduceBEq, Bool.false_or, Bool.true_or, cond_true, cond_false]
        exact St.Le.mk' ⟨rfl, rfl, rfl, rfl, rfl, rfl, rfl, rfl, rfl, rfl, rfl, rfl, rfl, rfl, rfl, rfl, rfl, rfl, rfl, rfl, rfl, trivial⟩ ⟨rfl, rfl, trivial⟩
      · intro D hid h0 hp hs rest hK
        obtain ⟨d7, d14, d15, d16, d17, -⟩ : AllD D false [7, 14, 15, 16, 17] := ideal_sub hs (by decide +kernel)
        simp only [d7, d14, d15, d16, d17, h0, cond_true, cond_false]
        refine Run.go rfl ?_
        refine Run.le ?_ hK
        simp only [d7, d14, d15, d16, d17, h0, Nat.reduceBEq, Bool.false_or, Bool.true_or, cond_true, cond_false]
        exact St.Le.mk' ⟨rfl, rfl, rfl, rfl, rfl, rfl, rfl, rfl, rfl, rfl, rfl, rfl, rfl, rfl, rfl, rfl, rfl, rfl, rfl, rfl, rfl, trivial⟩ ⟨rfl, rfl, trivial⟩
      · intro D hid h0 hp hs rest hK
        obtain ⟨d6, -⟩ : AllD D true [6] := ideal_sub hp (by decide +kernel)
        obtain ⟨d8, d14, d15, d16, d17, -⟩ : AllD D false [8, 14, 15, 16, 17] := ideal_sub hs (by decide +kernel)
        simp only [d6, d8, d14, d15, d16, d17, h0, cond_true, cond_false]
        refine Run.go rfl ?_
        rw [hw]
        refine Run.le ?_ hK
        simp only [d6, d8, d14, d15, d16, d17, h0, Nat.reduceBEq, Bool.false_or, Bool.true_or, cond_true, cond_false]
        exact St.Le.mk' ⟨rfl, rfl, rfl, rfl, rfl, rfl, rfl, rfl, rfl, rfl, rfl, rfl, rfl, rfl, rfl, rfl, rfl, rfl, rfl, rfl, rfl, trivial⟩ ⟨rfl, rfl, trivial⟩
      · intro D hid h0 hp hs rest hK
        obtain ⟨d5, d7, -⟩ : AllD D true [5, 7] := ideal_sub hp (by decide +kernel)
        obtain ⟨d9, d14, d15, d16, d17, -⟩ : AllD D false [9, 14, 15, 16, 17] := ideal_sub hs (by decide +kernel)
        simp only [d5, d7, d9, d14, d15, d16, d17, h0, cond_true, cond_false]
        refine Run.val rfl rfl rfl (ValOk.idxv rfl rfl rfl rfl rfl rfl (by omega) (by omega)) rfl ?_
        refine Run.le ?_ hK
        simp only [d5, d7, d9, d14, d15, d16, d17, h0, Nat.reduceBEq, Bool.false_or, Bool.true_or, cond_true, cond_false]
        exact St.Le.mk' ⟨rfl, rfl, rfl, rfl, rfl, rfl, rfl, rfl, rfl, rfl, rfl, rfl, rfl, rfl, rfl, rfl, rfl, rfl, rfl, rfl, rfl, trivial⟩ ⟨rfl, rfl, trivial⟩
      · intro D hid h0 hp hs rest hK
        obtain ⟨d8, -⟩ : AllD D true [8] := ideal_sub hp (by decide +kernel)
        obtain ⟨d14, d15, d16, d17, -⟩ : AllD D false [14, 15, 16, 17] := ideal_sub hs (by decide +kernel)
        simp only [d8, d14, d15, d16, d17, h0, cond_true, cond_false]
        refine Run.val rfl rfl rfl (ValOk.loadv (i64 y) rfl rfl rfl rfl hyj rfl) rfl ?_
        refine Run.le ?_ hK
        simp only [d8, d14, d15, d16, d17, h0, Nat.reduceBEq, Bool.false_or, Bool.true_or, cond_true, cond_false]
        exact St.Le.mk' ⟨rfl, rfl, rfl, rfl, rfl, rfl, rfl, rfl, rfl, rfl, rfl, rfl, rfl, rfl, rfl, rfl, rfl, rfl, rfl, rfl, rfl, trivial⟩ ⟨rfl, rfl, trivial⟩
      · intro D hid h0 hp hs rest hK
        obtain ⟨d12, d16, d17, -⟩ : AllD D false [12, 16, 17] := ideal_sub hs (by decide +kernel)
        simp only [d12, d16, d17, h0, cond_true, cond_false]
        refine Run.go rfl ?_
        refine Run.le ?_ hK
        simp only [d12, d16, d17, h0, Nat.reduceBEq, Bool.false_or, Bool.true_or, cond_true, cond_false]
        exact St.Le.mk' ⟨rfl, rfl, rfl, rfl, rfl, rfl, rfl, rfl, rfl, rfl, rfl, rfl, rfl, rfl, rfl, rfl, rfl, rfl, rfl, rfl, rfl, trivial⟩ ⟨rfl, rfl, trivial⟩
      · intro D hid h0 hp hs rest hK
        obtain ⟨d12, d16, d17, -⟩ : AllD D false [12, 16, 17] := ideal_sub hs (by decide +kernel)
        simp only [d12, d16, d17, h0, cond_true, cond_false]
        refine Run.go rfl ?_
        refine Run.le ?_ hK
        simp only [d12, d16, d17, h0, Nat.reduceBEq, Bool.false_or, Bool.true_or, cond_true, cond_false]
        exact St.Le.mk' ⟨rfl, rfl, rfl, rfl, rfl, rfl, rfl, rfl, rfl, rfl, rfl, rfl, rfl, rfl, rfl, rfl, rfl, rfl, rfl, rfl, rfl, trivial⟩ ⟨rfl, rfl, trivial⟩
      · intro D hid h0 hp hs rest hK
        obtain ⟨d10, d11, -⟩ : AllD D true [10, 11] := ideal_sub hp (by decide +kernel)
        obtain ⟨d13, d16, d17, -⟩ : AllD D false [13, 16, 17] := ideal_sub hs (by decide +kernel)
        have d15 : D 15 = false := ideal_no (i := 15) (j := 13) hid (by decide +kernel) d13
        simp only [d10, d11, d13, d16, d17, d15, h0, cond_true, cond_false]
        refine Run.val rfl rfl rfl (ValOk.idxv rfl rfl rfl rfl rfl rfl (by omega) (by omega)) rfl ?_
        refine Run.le ?_ hK
        simp only [d10, d11, d13, d16, d17, d15, h0, Nat.reduceBEq, Bool.false_or, Bool.true_or, cond_true, cond_false]
        exact St.Le.mk' ⟨rfl, rfl, rfl, rfl, rfl, rfl, rfl, rfl, rfl, rfl, rfl, rfl, rfl, rfl, rfl, rfl, rfl, rfl, rfl, rfl, rfl, trivial⟩ ⟨rfl, rfl, trivial⟩
      · intro D hid h0 hp hs rest hK
        obtain ⟨d12, -⟩ : AllD D true [12] := ideal_sub hp (by decide +kernel)
        obtain ⟨d14, d15, d16, d17, -⟩ : AllD D false [14, 15, 16, 17] := ideal_sub hs (by decide +kernel)
        simp only [d12, d14, d15, d16, d17, h0, cond_true, cond_false]
        refine Run.val rfl rfl rfl (ValOk.loadv (i64 x) rfl rfl rfl rfl hyi rfl) rfl ?_
        refine Run.le ?_ hK
        simp only [d12, d14, d15, d16, d17, h0, Nat.reduceBEq, Bool.false_or, Bool.true_or, cond_true, cond_false]
        exact St.Le.mk' ⟨rfl, rfl, rfl, rfl, rfl, rfl, rfl, rfl, rfl, rfl, rfl, rfl, rfl, rfl, rfl, rfl, rfl, rfl, rfl, rfl, rfl, trivial⟩ ⟨rfl, rfl, trivial⟩
      · intro D hid h0 hp hs rest hK
        obtain ⟨d0, d1, d5, d6, d7, d8, d9, d13, -⟩ : AllD D true [0, 1, 5, 6, 7, 8, 9, 13] := ideal_sub hp (by decide +kernel)
        obtain ⟨d15, d16, d17, -⟩ : AllD D false [15, 16, 17] := ideal_sub hs (by decide +kernel)
        simp only [d0, d1, d5, d6, d7, d8, d9, d13, d15, d16, d17, h0, cond_true, cond_false]
        refine Run.val rfl rfl rfl (ValOk.idxv rfl rfl rfl rfl rfl rfl (by omega) (by omega)) rfl ?_
        refine Run.le ?_ hK
        simp only [d0, d1, d5, d6, d7, d8, d9, d13, d15, d16, d17, h0, Nat.reduceBEq, Bool.false_or, Bool.true_or, cond_true, cond_false]
        exact St.Le.mk' ⟨rfl, rfl, rfl, rfl, rfl, rfl, rfl, rfl, rfl, rfl, rfl, rfl, rfl, rfl, rfl, rfl, rfl, rfl, rfl, rfl, rfl, trivial⟩ ⟨rfl, rfl, trivial⟩
      · intro D hid h0 hp hs rest hK
        obtain ⟨d0, d1, d5, d6, d7, d8, d9, d13, d14, -⟩ : AllD D true [0, 1, 5, 6, 7, 8, 9, 13, 14] := ideal_sub hp (by decide +kernel)
        obtain ⟨d16, d17, -⟩ : AllD D false [16, 17] := ideal_sub hs (by decide +kernel)
        simp only [d0, d1, d5, d6, d7, d8, d9, d13, d14, d16, d17, h0, cond_true, cond_false]
        refine Run.storee (i64 x) (i64 y) rfl rfl rfl rfl rfl rfl rfl hyi rfl rfl rfl ?_
        refine Run.le ?_ hK
        simp only [d0, d1, d5, d6, d7, d8, d9, d13, d14, d16, d17, h0, Nat.reduceBEq, Bool.false_or, Bool.true_or, cond_true, cond_false]
        exact St.Le.mk' ⟨rfl, rfl, rfl, rfl, rfl, rfl, rfl, rfl, rfl, rfl, rfl, rfl, rfl, rfl, rfl, rfl, rfl, rfl, rfl, rfl, rfl, trivial⟩ ⟨rfl, rfl, trivial⟩
      · intro D hid h0 hp hs rest hK
        obtain ⟨d0, d1, d2, d3, d4, d5, d6, d7, d8, d9, d10, d11, d12, d13, d14, d15, -⟩ : AllD D true [0, 1, 2, 3, 4, 5, 6, 7, 8, 9, 10, 11, 12, 13, 14, 15] := ideal_sub hp (by decide +kernel)
        obtain ⟨d17, -⟩ : AllD D false [17] := ideal_sub hs (by decide +kernel)
        simp only [d0, d1, d2, d3, d4, d5, d6, d7, d8, d9, d10, d11, d12, d13, d14, d15, d17, h0, cond_true, cond_false]
        refine Run.val rfl rfl rfl (ValOk.idxv rfl rfl rfl rfl rfl rfl (by omega) (by omega)) rfl ?_
        refine Run.le ?_ hK
        simp only [d0, d1, d2, d3, d4, d5, d6, d7, d8, d9, d10, d11, d12, d13, d14, d15, d17, h0, Nat.reduceBEq, Bool.false_or, Bool.true_or, cond_true, cond_false]
        exact St.Le.mk' ⟨rfl, rfl, rfl, rfl, rfl, rfl, rfl, rfl, rfl, rfl, rfl, rfl, rfl, rfl, rfl, rfl, rfl, rfl, rfl, rfl, rfl, trivial⟩ ⟨rfl, rfl, trivial⟩
      · intro D hid h0 hp hs rest hK
        obtain ⟨d0, d1, d2, d3, d4, d5, d6, d7, d8, d9, d10, d11, d12, d13, d14, d15, d16, -⟩ : AllD D true [0, 1, 2, 3, 4, 5, 6, 7, 8, 9, 10, 11, 12, 13, 14, 15, 16] := ideal_sub hp (by decide +kernel)
        simp only [d0, d1, d2, d3, d4, d5, d6, d7, d8, d9, d10, d11, d12, d13, d14, d15, d16, h0, cond_true, cond_false]
        refine Run.storee (i64 y) (i64 x) rfl rfl rfl rfl rfl rfl rfl hyj2 rfl rfl rfl ?_
        refine Run.le ?_ hK
        simp only [d0, d1, d2, d3, d4, d5, d6, d7, d8, d9, d10, d11, d12, d13, d14, d15, d16, h0, Nat.reduceBEq, Bool.false_or, Bool.true_or, cond_true, cond_false]
        exact St.Le.mk' ⟨rfl, rfl, rfl, rfl, rfl, rfl, rfl, rfl, rfl, rfl, rfl, rfl, rfl, rfl, rfl, rfl, rfl, rfl, rfl, rfl, rfl, trivial⟩ ⟨rfl, rfl, trivial⟩
      repeat (refine Run.go rfl ?_)
      refine Run.of IH3 ⟨rfl, rfl, rfl, rfl, ?_, trivial⟩ ⟨?_, rfl, trivial⟩
      · show i64 _ = _
        rw [hw]
      · show Ob.vec _ _ _ = _
        rw [List.map_set, List.map_set, Nat.zero_add, Nat.zero_add, Int.toNat_natCast, Int.toNat_natCast]
    · have h : ¬ (0 < j ∧ x < S.getD (j - 1) 0) := by simpa using h
      have hS1 : ∀ y ∈ S.take j, y ≤ x := by
        by_cases h0 : j = 0
        · subst h0; simp
        · have hk : S.getD (j - 1) 0 ≤ x := by
            rcases Int.lt_or_le x (S.getD (j - 1) 0) with h1 | h1
            · exact absurd ⟨by omega, h1⟩ h
            · exact h1
          intro y hy
          obtain ⟨m, hm, he⟩ := List.mem_iff_getElem.1 hy
          rw [List.getElem_take] at he
          rw [List.length_take] at hm
          have h1 : S.getD (j - 1) 0 = S[j - 1] := by rw [List.getD_eq_getElem?_getD, List.getElem?_eq_getElem (show j - 1 < S.length by omega)]; rfl
          by_cases hm2 : m = j - 1
          · subst hm2; omega
          · have := List.pairwise_iff_getElem.1 hs m (j - 1) (by omega) (by omega) (by omega)
            omega
      repeat (refine Run.go rfl ?_)
      refine Run.of (IH (i + 1, S.take j ++ x :: S.drop j) ⟨?_, ?_, by show i + 1 ≤ _; omega⟩ (by show l.length - (i + 1) < l.length - i; omega)) ⟨rfl, rfl, rfl, ?_, trivial⟩ ⟨?_, rfl, trivial⟩
      · show (S.take j ++ x :: S.drop j).Perm (l.take (i + 1 + 1))
        rw [List.take_succ_eq_append_getElem hlt, ← hx]
        refine (List.perm_middle).trans ?_
        rw [List.take_append_drop]
        exact (List.Perm.cons x hp).trans (List.perm_append_singleton x _).symm
      · show (S.take j ++ x :: S.drop j).Pairwise (· ≤ ·)
        have hs' := hs
        rw [← List.take_append_drop j S] at hs'
        obtain ⟨a1, a2, a3⟩ := List.pairwise_append.1 hs'
        refine List.pairwise_append.2 ⟨a1, List.pairwise_cons.2 ⟨hjy, a2⟩, fun u hu v hv => ?_⟩
        rcases List.mem_cons.1 hv with rfl | hv
        · exact hS1 u hu
        · exact a3 u hu v hv
      · show i64 _ = _
        rw [wrap_i64 (by omega) (by omega)]
        rfl
      · show Ob.vec _ _ _ = Ob.vec _ _ _
        rw [inA, List.append_assoc, List.cons_append, ← hR]
  · have hge : l.length ≤ i + 1 := by have := of_decide_eq_false h; omega
    have he : S = srtI l := srtI_eq (by rw [List.take_of_length_le hge] at hp; exact hp) hs
    rw [he, List.drop_eq_nil_of_le hge, List.append_nil]
    repeat (refine Run.go rfl ?_)
    exact Run.finG hg rfl rfl rfl rfl rfl rfl
end Go.Proofs.YtcfkdcjindhnjaaGreat
