/- Contracts of the program's functions, and what follows from them. -/
import Derived.Test.YtcfkdcjindhnjaaGreatK15
import Derived.Test.YtcfkdcjindhnjaaGreatK18
import Derived.Test.YtcfkdcjindhnjaaGreatMB
set_option linter.unusedVariables false
set_option maxRecDepth 100000
set_option linter.unusedSimpArgs false
namespace Go.Proofs.YtcfkdcjindhnjaaGreat
open Go Go.Av

/-! Lists of books sorted, and drawn. -/

theorem St.expL_cons {st : St} {n : Nat} {x x' : AV} {r r' : List AV} (hx : St.exp st n x = some x') (hr : St.expL st n r = some r') : St.expL st (n + 1) (x :: r) = some (x' :: r') := by
  simp only [St.expL, hx, hr]
theorem mid_set {α : Type} (A B : List α) (y z : α) : (A ++ [y] ++ B).set A.length z = A ++ [z] ++ B := by
  rw [List.append_assoc, List.append_assoc, List.set_append_right A.length z (Nat.le_refl _), Nat.sub_self]
  rfl
theorem mid_at {α : Type} (A B : List α) (y : α) {k : Nat} (hk : k < A.length) : (A ++ [y] ++ B)[k]? = A[k]? := by
  rw [List.append_assoc, List.getElem?_append_left hk]

noncomputable def X59 : Fx := ⟨Tryz.prog, tys, 59, Tryz.f59, [0, 1]⟩
theorem X59_ok : X59.Ok := ⟨Tryz.func59, tys_ok⟩
set_option maxHeartbeats 1000000 in
theorem l01Sorted_ct (l : List Bk) (eo e2 : Bool) (hr : ∀ x ∈ l, bkRng x) (hlen : l.length ≤ 1000) : Ct Tryz.prog 59 [.ro 1 eo usl, .ro 8 e2 (l.map bkA)] (.own 8 false ((srtL l).map bkA)) [] := by
  refine Ct.intro X59 X59_ok rfl (by kernel_rfl) rfl rfl fun g hg => ?_
  repeat (refine Run.go rfl ?_)
  refine Run.buildSlice [] rfl rfl rfl rfl rfl rfl rfl rfl rfl rfl rfl rfl rfl rfl ?_
  iterate 2 (refine Run.go rfl ?_)
  refine Run.loosen0 5 rfl ?_
  repeat (refine Run.go rfl ?_)
  refine Run.loop (fun i : Nat => ⟨[(0, .ro 1 eo usl), (1, .ro 8 e2 (l.map bkA)), (5, .own 8 false ((srtL (l.take i)).map bkA)), (6, i64 (i : Nat))], []⟩) (fun i => i ≤ l.length) (fun i => l.length - i) 0 (by omega) ?_ ?_
  · exact St.Le.mk' ⟨rfl, rfl, rfl, rfl, trivial⟩ trivial
  intro i hi IH
  repeat (refine Run.go rfl ?_)
  refine Run.cond rfl (fun h => ?_) (fun h => ?_)
  · have hlt : i < l.length := by simpa using h
    have hat : (l.map bkA)[((i : Int)).toNat]? = some (bkA l[i]) := by simp [hlt]
    have hxr := hr l[i] (by simp)
    obtain ⟨s1, s2, s3⟩ := srtL_ok (l.take i) (fun x hx => hr x (List.mem_of_mem_take hx)) [] List.Pairwise.nil (by simp)
    have hst := srtL_step hlt
    have IH1 := IH (i + 1) (by omega) (by omega)
    rw [hst] at IH1
    have s3 : ∀ y ∈ srtL (l.take i), bkRng y := fun y hy => by
      rcases s3 y hy with hy | hy
      · exact hr y (List.mem_of_mem_take hy)
      · simp at hy
    have s2 : (srtL (l.take i)).length = i := by
      refine Eq.trans s2 ?_
      rw [List.length_take]
      simp
      omega
    clear s1
    generalize l[i] = x at *
    generalize srtL (l.take i) = S at *
    have hml : (S.map bkA).length = i := by rw [List.length_map, s2]
    repeat (refine Run.go rfl ?_)
    refine Run.val rfl rfl rfl (ValOk.idx (bkA x) rfl rfl rfl rfl rfl (by omega) hat) rfl ?_
    repeat (refine Run.go rfl ?_)
    refine Run.buildSlice [bkA x] rfl rfl rfl rfl rfl rfl rfl rfl rfl rfl rfl rfl rfl rfl ?_
    refine Run.appendo rfl rfl rfl rfl rfl rfl rfl rfl rfl rfl rfl rfl rfl rfl (by show ((S.map bkA).length + 1) * 14 ≤ 140737488355328; rw [hml]; omega) (by simp [capMax]; omega) (by decide) rfl ?_
    repeat (refine Run.go rfl ?_)
    refine Run.of (st' := ⟨[(0, .ro 1 eo usl), (1, .ro 8 e2 (l.map bkA)), (5, .own 8 false (S.map bkA ++ [bkA x])), (6, i64 (i : Nat)), (7, i64 ((S.map bkA).length : Nat))], []⟩) ?_ ⟨rfl, rfl, rfl, rfl, rfl, trivial⟩ trivial
    unfold Nxt
    refine Run.unpack 5 rfl rfl ?_
    refine Run.loop (fun q : Nat × Bk => ⟨[(0, .ro 1 eo usl), (1, .ro 8 e2 (l.map bkA)), (5, .vec (5, 0) 0 (i + 1)), (6, i64 (i : Nat)), (7, i64 (q.1 : Nat))], [((5, 0), .vec 8 false ((S.take q.1 ++ [q.2] ++ S.drop q.1).map bkA))]⟩)
      (fun q => q.1 ≤ i ∧ spl S x i = spl S x q.1) (fun q => q.1) (i, x) ⟨Nat.le_refl _, rfl⟩ ?_ ?_
    · refine St.Le.mk' ⟨rfl, rfl, ?_, rfl, ?_, trivial⟩ ⟨?_, trivial⟩
      · show AV.vec _ _ (S.map bkA ++ [bkA x]).length = AV.vec _ _ _
        rw [List.length_append, hml]
        rfl
      · show i64 ((S.map bkA).length : Nat) = _
        rw [hml]
      · show Ob.vec _ _ (S.map bkA ++ [bkA x]) = Ob.vec _ _ ((S.take i ++ [x] ++ S.drop i).map bkA)
        rw [List.take_of_length_le (by omega), List.drop_of_length_le (by omega), List.append_nil, List.map_append]
        rfl
    rintro ⟨k, y⟩ ⟨hk, hsp⟩ IH2
    simp only at hk hsp IH2
    have hTl : (S.take k).length = k := by rw [List.length_take]; omega
    repeat (refine Run.go rfl ?_)
    refine Run.drawS ⟨[(0, .ro 1 eo usl), (1, .ro 8 e2 (l.map bkA)), (5, .vec (5, 0) 0 (i + 1)), (6, i64 (i : Nat)), (7, i64 (k : Nat)), (37, bo (decide (0 < k) && decide (uc x (S.getD (k - 1) bk0) < 0)))], [((5, 0), .vec 8 false ((S.take k ++ [y] ++ S.drop k).map bkA))]⟩ (by kernel_rfl) (by decide +kernel) ?_ ?_
    · repeat (refine Quiet.go rfl ?_)
      refine Quiet.bool 26 rfl (fun hA => ?_) (fun hA => ?_)
      · have hA : 0 < k := by have := of_decide_eq_true hA; omega
        obtain ⟨j, rfl⟩ : ∃ j, k = j + 1 := ⟨k - 1, by omega⟩
        have hjS : j < S.length := by omega
        have hgd : S.getD (j + 1 - 1) bk0 = S[j] := by rw [Nat.add_sub_cancel, List.getD_eq_getElem?_getD, List.getElem?_eq_getElem hjS]; rfl
        have hw : IntKind.i64.wrap (((j + 1 : Nat) : Int) - 1) = (j : Nat) := by rw [wrap_i64 (by omega) (by omega)]; omega
        have hatj : ((S.take (j + 1) ++ [y] ++ S.drop (j + 1)).map bkA)[0 + ((j : Nat) : Int).toNat]? = some (bkA S[j]) := by
          rw [Nat.zero_add, Int.toNat_natCast, List.getElem?_map, mid_at _ _ _ (by omega), List.getElem?_take, if_pos (by omega), List.getElem?_eq_getElem hjS]
          rfl
        rw [hgd]
        repeat (refine Quiet.go rfl ?_)
        refine Quiet.val rfl rfl (ValOk.idx (bkA x) rfl rfl rfl rfl rfl (by omega) hat) rfl ?_
        repeat (refine Quiet.go rfl ?_)
        refine Quiet.val rfl rfl (ValOk.idxv (m := (j : Nat)) rfl rfl rfl rfl rfl (by show i64 (IntKind.i64.wrap (((j + 1 : Nat) : Int) - 1)) = _; rw [hw]) (by omega) (by omega)) rfl ?_
        refine Quiet.call rfl rfl rfl rfl (St.expL_cons rfl (St.expL_cons rfl (St.expL_ep rfl hatj rfl))) rfl (l01Compare_ct x S[j] eo hxr (s3 _ (List.getElem_mem hjS))) rfl ?_
        repeat (refine Quiet.go rfl ?_)
        refine Quiet.nil (St.Le.mk' ⟨rfl, rfl, rfl, rfl, rfl, ?_, trivial⟩ ⟨rfl, trivial⟩)
        show bo (decide (uc x S[j] < 0)) = bo _
        rw [decide_eq_true hA, Bool.true_and]
      · have hA : ¬ 0 < k := by have := of_decide_eq_false hA; omega
        repeat (refine Quiet.go rfl ?_)
        refine Quiet.nil (St.Le.mk' ⟨rfl, rfl, rfl, rfl, rfl, ?_, trivial⟩ ⟨rfl, trivial⟩)
        show bo false = bo _
        rw [decide_eq_false hA, Bool.false_and]
    repeat (refine Run.go rfl ?_)
    refine Run.cond rfl (fun h => ?_) (fun h => ?_)
    · have h : 0 < k ∧ uc x (S.getD (k - 1) bk0) < 0 := by simpa using h
      obtain ⟨j, rfl⟩ : ∃ j, k = j + 1 := ⟨k - 1, by omega⟩
      have hjS : j < S.length := by omega
      have hgd : S.getD j bk0 = S[j] := by rw [List.getD_eq_getElem?_getD, List.getElem?_eq_getElem hjS]; rfl
      have hw : IntKind.i64.wrap (((j + 1 : Nat) : Int) - 1) = (j : Nat) := by rw [wrap_i64 (by omega) (by omega)]; omega
      have hatj : ((S.take (j + 1) ++ [y] ++ S.drop (j + 1)).map bkA)[0 + ((j : Nat) : Int).toNat]? = some (bkA S[j]) := by
        rw [Nat.zero_add, Int.toNat_natCast, List.getElem?_map, mid_at _ _ _ (by omega), List.getElem?_take, if_pos (by omega), List.getElem?_eq_getElem hjS]
        rfl
      have hatk : ((S.take (j + 1) ++ [y] ++ S.drop (j + 1)).map bkA)[0 + ((j + 1 : Nat) : Int).toNat]? = some (bkA y) := by
        rw [Nat.zero_add, Int.toNat_natCast, List.getElem?_map, List.append_assoc, List.getElem?_append_right (by omega), hTl, Nat.sub_self]
        rfl
      have hset : ((S.take (j + 1) ++ [y] ++ S.drop (j + 1)).map bkA).set (0 + ((j + 1 : Nat) : Int).toNat) (bkA S[j]) = (S.take j ++ [S[j]] ++ S.drop j).map bkA := by
        rw [Nat.zero_add, Int.toNat_natCast, ← List.map_set]
        congr 1
        have e := mid_set (S.take (j + 1)) (S.drop (j + 1)) y S[j]
        rw [hTl] at e
        rw [e, List.take_succ_eq_append_getElem hjS, List.drop_eq_getElem_cons hjS]
        simp
      rw [spl, if_pos (show uc x (S.getD j bk0) < 0 from h.2)] at hsp
      repeat (refine Run.go rfl ?_)
      refine Run.val rfl rfl rfl (ValOk.idxv (m := (j : Nat)) rfl rfl rfl rfl rfl (by show i64 (IntKind.i64.wrap (((j + 1 : Nat) : Int) - 1)) = _; rw [hw]) (by omega) (by omega)) rfl ?_
      refine Run.val rfl rfl rfl (ValOk.loadv (bkA S[j]) rfl rfl rfl rfl hatj rfl) rfl ?_
      refine Run.val rfl rfl rfl (ValOk.idxv (m := ((j + 1 : Nat) : Int)) rfl rfl rfl rfl rfl rfl (by omega) (by omega)) rfl ?_
      refine Run.storee (bkA y) (bkA S[j]) rfl rfl rfl rfl rfl rfl rfl hatk rfl rfl rfl ?_
      rw [hset]
      repeat (refine Run.go rfl ?_)
      refine Run.of (IH2 (j, S[j]) ⟨by show j ≤ i; omega, hsp⟩ (by show j < j + 1; omega)) ⟨rfl, rfl, rfl, rfl, ?_, trivial⟩ ⟨rfl, trivial⟩
      show i64 (IntKind.i64.wrap (((j + 1 : Nat) : Int) - 1)) = _
      rw [hw]
    · have h : ¬ (0 < k ∧ uc x (S.getD (k - 1) bk0) < 0) := by simpa using h
      have hk2 : spl S x i = k := by
        rw [hsp]
        cases k with
        | zero => rfl
        | succ j =>
          rw [spl, if_neg]
          intro hc
          exact h ⟨by omega, hc⟩
      have hatk : ((S.take k ++ [y] ++ S.drop k).map bkA)[0 + ((k : Nat) : Int).toNat]? = some (bkA y) := by
        rw [Nat.zero_add, Int.toNat_natCast, List.getElem?_map, List.append_assoc, List.getElem?_append_right (by omega), hTl, Nat.sub_self]
        rfl
      have hset : ((S.take k ++ [y] ++ S.drop k).map bkA).set (0 + ((k : Nat) : Int).toNat) (bkA x) = (insL S x).map bkA := by
        rw [Nat.zero_add, Int.toNat_natCast, ← List.map_set, insL, s2, hk2]
        have e := mid_set (S.take k) (S.drop k) y x
        rw [hTl] at e
        rw [e]
      repeat (refine Run.go rfl ?_)
      refine Run.val rfl rfl rfl (ValOk.idx (bkA x) rfl rfl rfl rfl rfl (by omega) hat) rfl ?_
      repeat (refine Run.go rfl ?_)
      refine Run.val rfl rfl rfl (ValOk.idxv (m := (k : Nat)) rfl rfl rfl rfl rfl rfl (by omega) (by omega)) rfl ?_
      refine Run.storee (bkA y) (bkA x) rfl rfl rfl rfl rfl rfl rfl hatk rfl rfl rfl ?_
      rw [hset]
      repeat (refine Run.go rfl ?_)
      refine Run.pack 5 rfl rfl (by rw [List.length_map, insL_len, s2]) ?_
      refine Run.of IH1 ⟨rfl, rfl, rfl, ?_, trivial⟩ trivial
      show i64 _ = _
      rw [wrap_i64 (by omega) (by omega)]
      rfl
  · have hj' : i = l.length := by simp at h; omega
    subst hj'
    rw [List.take_length]
    repeat (refine Run.go rfl ?_)
    refine Run.pack 4 rfl rfl (by simp) ?_
    exact Run.ret hg rfl rfl
end Go.Proofs.YtcfkdcjindhnjaaGreat
