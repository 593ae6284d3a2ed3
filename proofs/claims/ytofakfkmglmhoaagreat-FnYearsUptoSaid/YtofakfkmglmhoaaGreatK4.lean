/- Contracts of the program's functions, and what follows from them. -/
import Derived.Test.YtofakfkmglmhoaaGreatK3
set_option linter.unusedVariables false
set_option maxRecDepth 100000
set_option linter.unusedSimpArgs false
namespace Go.Proofs.YtofakfkmglmhoaaGreat
open Go Go.Av

/-! Racks that grow: the program. -/

noncomputable def X72 : Fx := ⟨Tryz.prog, tys, 72, Tryz.f72, []⟩
theorem X72_ok : X72.Ok := ⟨Tryz.func72, tys_ok⟩
theorem insert_pl_ct (L Y : List Pl) (ex e2 : Bool) (i : Nat) (hi : i ≤ L.length) (hlen : L.length + Y.length ≤ 1048576) : Ct Tryz.prog 72 [.own 9 ex (L.map plA), i64 i, .ro 9 e2 (Y.map plA)] (.own 9 false ((L.take i ++ Y ++ L.drop i).map plA)) [] := by
  have hml : (L.map plA).length = L.length := List.length_map ..
  have hyl : (Y.map plA).length = Y.length := List.length_map ..
  refine Ct.intro X72 X72_ok rfl (by kernel_rfl) rfl rfl fun g hg => ?_
  repeat (refine Run.go rfl ?_)
  refine Run.val rfl rfl rfl (ValOk.cutv (l := i) (h := (L.map plA).length) rfl rfl rfl rfl rfl rfl rfl (by omega) (by omega) (by omega)) rfl ?_
  repeat (refine Run.go rfl ?_)
  refine Run.cond rfl (fun h => ?_) (fun hY => ?_)
  · have h : Y = [] := by simpa using h
    repeat (refine Run.go rfl ?_)
    refine Run.packTake 6 rfl rfl (by simp) ?_
    refine Run.ret hg rfl ?_
    rw [h, List.append_nil, List.take_append_drop, List.take_length]
    rfl
  have hY : 0 < Y.length := by
    cases Y with
    | nil => simp at hY
    | cons => simp
  repeat (refine Run.go rfl ?_)
  refine Run.cond rfl (fun h => ?_) (fun hn => ?_)
  · have h : i = L.length := by simp at h; omega
    repeat (refine Run.go rfl ?_)
    refine Run.appendr rfl rfl rfl rfl rfl rfl rfl rfl rfl rfl rfl rfl rfl (one_pl _) (by show (_ + _) * 16 ≤ _; simp; omega) (by simp [capMax]; omega) rfl ?_
    repeat (refine Run.go rfl ?_)
    refine Run.ret hg rfl ?_
    rw [h, List.take_length, List.drop_length, List.append_nil, List.map_append]
    rfl
  have hn : i < L.length := by
    have : ¬ (i : Int) = L.length := by simpa using hn
    omega
  repeat (refine Run.go rfl ?_)
  refine Run.capx (.agg (List.replicate 9 .top)) rfl rfl rfl rfl rfl rfl rfl rfl (lt_pl _) rfl rfl fun c hc1 hc2 => ?_
  generalize hR : List.replicate (c - (L.map plA).length) (AV.agg (List.replicate 9 .top)) = R
  have hRl : R.length = c - L.length := by rw [← hR]; simp
  have hRlt : (flatc R).all isLT = true := by rw [← hR]; exact lt_rep _ _ (by decide)
  have hOlt : (flatc (L.map plA ++ R)).all isLT = true := by rw [lt_app, lt_pl, hRlt]; rfl
  have hOl : (L.map plA ++ R).length = c := by simp [hRl]; omega
  have hT : (L.map plA ++ R).take i = (L.take i).map plA := by rw [List.take_append_of_le_length (by omega), List.map_take]
  have hD : ((L.map plA ++ R).drop i).take (L.length - i) = (L.drop i).map plA := by
    rw [List.drop_append_of_le_length (by omega), List.take_append_of_le_length (by simp), ← List.map_drop, List.take_of_length_le (by simp)]
  have hTl : ((L.take i).map plA).length = i := by simp; omega
  have hDl : ((L.drop i).map plA).length = L.length - i := by simp
  have hcap : c ≤ 9223372036854775807 := hc2
  have hout : (L.take i).map plA ++ Y.map plA ++ (L.drop i).map plA = (L.take i ++ Y ++ L.drop i).map plA := by rw [List.map_append, List.map_append]
  clear hR
  generalize hT0 : (L.take i).map plA = T at *
  generalize hD0 : (L.drop i).map plA = D at *
  have hsum : IntKind.i64.wrap ((L.length : Int) + Y.length) = (L.length + Y.length : Nat) := by rw [wrap_i64 (by omega) (by omega)]; rfl
  have hsum2 : IntKind.i64.wrap ((i : Int) + Y.length) = (i + Y.length : Nat) := by rw [wrap_i64 (by omega) (by omega)]; rfl
  repeat (refine Run.go rfl ?_)
  refine Run.cond rfl (fun h => ?_) (fun h => ?_)
  · have h : c < L.length + Y.length := by
      have h : (c : Int) < IntKind.i64.wrap (((L.map plA).length : Int) + ((Y.map plA).length : Nat)) := by simpa using h
      rw [hml, hyl, hsum] at h
      omega
    repeat (refine Run.go rfl ?_)
    refine Run.val rfl rfl rfl (ValOk.cutl (l := 0) (h := i) rfl rfl rfl rfl rfl rfl rfl (by omega) (by omega) (by rw [hOl]; omega)) rfl ?_
    repeat (refine Run.go rfl ?_)
    have hmk : IntKind.i64.wrap (IntKind.i64.wrap (((L.map plA).length : Int) + ((Y.map plA).length : Nat)) - i) = (L.length + Y.length - i : Nat) := by rw [hml, hyl, hsum, wrap_i64 (by omega) (by omega)]; omega
    refine Run.appendz (kk := .i64) (id := (0, 0)) (p := i) (n := L.length + Y.length - i) (plA pl0) rfl rfl rfl rfl rfl rfl rfl ?_ ?_ rfl rfl rfl rfl rfl (by omega) (by rw [hOl]; omega) (by rw [hOl]; omega) hOlt (by show (_ + _) * 16 ≤ _; omega) (by show _ + _ ≤ 9223372036854775807; omega) rfl ?_
    · show i64 _ = i64 _
      rw [← hmk]
    · show AV.vec _ _ _ = _
      rfl
    rw [hT]
    have hZl : (T ++ List.replicate (L.length + Y.length - i) (plA pl0)).length = L.length + Y.length := by simp; omega
    have hZlt : (flatc (T ++ List.replicate (L.length + Y.length - i) (plA pl0))).all isLT = true := by rw [lt_app, lt_rep _ _ rfl, ← hT0, lt_pl]; rfl
    have hZt : (T ++ List.replicate (L.length + Y.length - i) (plA pl0)).take i = T := by rw [List.take_append_of_le_length (by omega), List.take_of_length_le (by omega)]
    generalize T ++ List.replicate (L.length + Y.length - i) (plA pl0) = Z at hZl hZlt hZt
    repeat (refine Run.go rfl ?_)
    refine Run.val rfl rfl rfl (ValOk.cutv (l := i) (h := Z.length) rfl rfl rfl rfl rfl rfl rfl (by omega) (by omega) (by omega)) rfl ?_
    repeat (refine Run.go rfl ?_)
    refine Run.copyd (id := (9, 0)) (m := i) (len := L.length + Y.length - i) (ys := Y.map plA) rfl rfl rfl rfl rfl ?_ rfl rfl (srcOf_ro rfl) hZlt (lt_pl _) (by rw [hZl]; omega) Y.length (by rw [hyl]; exact (Nat.min_eq_left (by omega)).symm) (by rw [List.take_of_length_le (Nat.le_of_eq hyl)]; exact one_pl _) rfl ?_
    · show AV.vec _ _ _ = AV.vec _ _ _
      congr 1
      · first | (simp; done) | (simp; omega)
      · rw [hZl]; first | (simp; done) | (simp; omega)
    rw [hZt, List.take_of_length_le (Nat.le_of_eq hyl)]
    have hWl : (T ++ Y.map plA ++ Z.drop (i + Y.length)).length = L.length + Y.length := by simp [hZl]; omega
    have hWlt : (flatc (T ++ Y.map plA ++ Z.drop (i + Y.length))).all isLT = true := by
      rw [lt_app, lt_app, ← hT0, lt_pl, lt_pl]
      rw [Bool.true_and, Bool.true_and]
      have := hZlt
      rw [← List.take_append_drop (i + Y.length) Z, lt_app, Bool.and_eq_true] at this
      exact this.2
    have hWt : (T ++ Y.map plA ++ Z.drop (i + Y.length)).take (i + Y.length) = T ++ Y.map plA := by rw [List.take_append_of_le_length (by simp; omega), List.take_of_length_le (by simp; omega)]
    generalize T ++ Y.map plA ++ Z.drop (i + Y.length) = W at hWl hWlt hWt
    repeat (refine Run.go rfl ?_)
    refine Run.drawQ1 8 [8] (by kernel_rfl) (by decide +kernel) (by decide +kernel) rfl (by decide +kernel) ?_
    repeat (refine Quiet.go rfl ?_)
    refine Quiet.val rfl rfl (ValOk.cutl (l := (i + Y.length : Nat)) (h := Z.length) rfl rfl rfl rfl rfl (by show some (IntKind.i64.wrap ((i : Int) + ((Y.map plA).length : Nat))) = _; rw [hyl, hsum2]) rfl (by omega) (by rw [hZl]; omega) (by rw [hWl, hZl]; omega)) rfl ?_
    repeat (refine Quiet.go rfl ?_)
    refine Quiet.val rfl rfl (ValOk.cutl (l := i) (h := (L.map plA).length) rfl rfl rfl rfl rfl rfl rfl (by omega) (by rw [hml]; omega) (by rw [hOl, hml]; omega)) rfl ?_
    refine Quiet.nil ?_
    refine Run.copyd (id := (9, 0)) (m := i + Y.length) (len := L.length - i) (ys := D) rfl rfl rfl rfl rfl ?_ rfl rfl ?_ hWlt (by rw [← hD0]; exact lt_pl _) (by rw [hWl]; omega) (L.length - i) (by rw [hDl]; exact (Nat.min_self _).symm) (by rw [List.take_of_length_le (Nat.le_of_eq hDl), ← hD0]; exact one_pl _) rfl ?_
    · show AV.vec _ _ _ = AV.vec _ _ _
      congr 1
      · first | (simp; done) | (simp; omega)
      · rw [hZl]; simp; omega
    · rw [← hD]
      refine srcOf_vec (id := (0, 0)) ?_ rfl (by rw [hOl]; omega)
      show AV.vec _ _ _ = AV.vec _ _ _
      congr 1
      · first | (simp; done) | (simp; omega)
      · rw [hml]; omega
    repeat (refine Run.go rfl ?_)
    refine Run.packTake 6 rfl rfl (by rw [hZl]; simp [hWl, hTl, hDl]; omega) ?_
    refine Run.ret hg rfl ?_
    show AV.own _ _ _ = AV.own _ _ _
    congr 1
    rw [hWt, List.take_of_length_le (Nat.le_of_eq hDl), List.take_append_of_le_length (by simp [hTl, hDl, hZl]; omega), hout, List.take_of_length_le (by rw [← hout]; simp [hTl, hDl, hZl]; omega)]
  · have h : L.length + Y.length ≤ c := by
      have h : ¬ (c : Int) < IntKind.i64.wrap (((L.map plA).length : Int) + ((Y.map plA).length : Nat)) := by simpa using h
      rw [hml, hyl, hsum] at h
      omega
    have e1 : IntKind.i64.wrap (((L.map plA).length : Int) + ((Y.map plA).length : Nat)) = (L.length + Y.length : Nat) := by rw [hml, hyl, hsum]
    have e2 : IntKind.i64.wrap ((i : Int) + ((Y.map plA).length : Nat)) = (i + Y.length : Nat) := by rw [hyl, hsum2]
    generalize hO : L.map plA ++ R = O at *
    repeat (refine Run.go rfl ?_)
    refine Run.val rfl rfl rfl (ValOk.cutl (l := 0) (h := (L.length + Y.length : Nat)) rfl rfl rfl rfl rfl rfl (by show some _ = some _; rw [e1]) (by omega) (by omega) (by rw [hOl]; omega)) rfl ?_
    repeat (refine Run.go rfl ?_)
    refine Run.val rfl rfl rfl (ValOk.cutl (l := (i + Y.length : Nat)) (h := (L.length + Y.length : Nat)) rfl rfl rfl rfl rfl (by show some _ = some _; rw [e2]) (by show some _ = some _; first | (simp; done) | (simp; omega)) (by omega) (by omega) (by rw [hOl]; simp; omega)) rfl ?_
    refine Run.overlapsR (fn := Tryz.f95) (t := 25) rfl rfl rfl rfl rfl Tryz.func95 (by kernel_rfl) (by kernel_rfl) (by kernel_rfl) (by kernel_rfl) (by kernel_rfl) rfl rfl rfl rfl rfl rfl ?_
    repeat (refine Run.go rfl ?_)
    refine Run.cond rfl (fun h => ?_) (fun h => by simp at h)
    repeat (refine Run.go rfl ?_)
    refine Run.drawQ1 8 [8] (by kernel_rfl) (by decide +kernel) (by decide +kernel) rfl (by decide +kernel) ?_
    repeat (refine Quiet.go rfl ?_)
    refine Quiet.val rfl rfl (ValOk.cutl (l := (i + Y.length : Nat)) (h := (L.length + Y.length : Nat)) rfl rfl rfl rfl rfl (by show some _ = some _; rw [e2]) (by show some _ = some _; first | (simp; done) | (simp; omega)) (by omega) (by omega) (by rw [hOl]; simp; omega)) rfl ?_
    repeat (refine Quiet.go rfl ?_)
    refine Quiet.val rfl rfl (ValOk.cutl (l := i) (h := (L.length + Y.length : Nat)) rfl rfl rfl rfl rfl rfl (by show some _ = some _; first | (simp; done) | (simp; omega)) (by omega) (by omega) (by rw [hOl]; simp; omega)) rfl ?_
    refine Quiet.nil ?_
    have hsrc : ((O.drop i).take (L.length + Y.length - i)).take (L.length - i) = D := by rw [List.take_take, Nat.min_eq_left (by omega), hD]
    have hslt : (flatc ((O.drop i).take (L.length + Y.length - i))).all isLT = true := by
      have := hOlt
      rw [← List.take_append_drop i O, lt_app, Bool.and_eq_true, ← List.take_append_drop (L.length + Y.length - i) (O.drop i), lt_app, Bool.and_eq_true] at this
      exact this.2.1
    refine Run.copyd (id := (0, 0)) (m := i + Y.length) (len := L.length - i) (ys := (O.drop i).take (L.length + Y.length - i)) rfl rfl rfl rfl rfl ?_ rfl rfl ?_ hOlt hslt (by rw [hOl]; omega) (L.length - i) ?_ (by rw [hsrc, ← hD0]; exact one_pl _) rfl ?_
    · show AV.vec _ _ _ = AV.vec _ _ _
      congr 1
      · first | (simp; done) | (simp; omega)
      · simp; omega
    · refine srcOf_vec (id := (0, 0)) ?_ rfl (by rw [hOl]; omega)
      show AV.vec _ _ _ = AV.vec _ _ _
      congr 1
      · first | (simp; done) | (simp; omega)
    · rw [List.length_take, List.length_drop, hOl]
      show _ = min _ _
      omega
    rw [hsrc]
    have hVl : (O.take (i + Y.length) ++ D ++ O.drop (i + Y.length + (L.length - i))).length = c := by simp [hOl, hDl]; omega
    have hVlt : (flatc (O.take (i + Y.length) ++ D ++ O.drop (i + Y.length + (L.length - i)))).all isLT = true := by
      have h1 := hOlt
      rw [← List.take_append_drop (i + Y.length) O, lt_app, Bool.and_eq_true] at h1
      have h2 := hOlt
      rw [← List.take_append_drop (i + Y.length + (L.length - i)) O, lt_app, Bool.and_eq_true] at h2
      rw [lt_app, lt_app, h1.1, h2.2, ← hD0, lt_pl]
      rfl
    have hVt : (O.take (i + Y.length) ++ D ++ O.drop (i + Y.length + (L.length - i))).take i = T := by
      rw [List.append_assoc, List.take_append_of_le_length (by simp [hOl]; omega), List.take_take, Nat.min_eq_left (by omega), hT]
    have hVd : (O.take (i + Y.length) ++ D ++ O.drop (i + Y.length + (L.length - i))).drop (i + Y.length) = D ++ O.drop (i + Y.length + (L.length - i)) := by
      rw [List.append_assoc, List.drop_left' (by simp [hOl]; omega)]
    generalize O.take (i + Y.length) ++ D ++ O.drop (i + Y.length + (L.length - i)) = V at hVl hVlt hVt hVd
    repeat (refine Run.go rfl ?_)
    refine Run.val rfl rfl rfl (ValOk.cutl (l := i) (h := (L.length + Y.length : Nat)) rfl rfl rfl rfl rfl rfl (by show some _ = some _; first | (simp; done) | (simp; omega)) (by omega) (by omega) (by rw [hVl]; simp; omega)) rfl ?_
    repeat (refine Run.go rfl ?_)
    refine Run.copyd (id := (0, 0)) (m := i) (len := L.length + Y.length - i) (ys := Y.map plA) rfl rfl rfl rfl rfl ?_ rfl rfl (srcOf_ro rfl) hVlt (lt_pl _) (by rw [hVl]; omega) Y.length (by rw [hyl]; exact (Nat.min_eq_left (by omega)).symm) (by rw [List.take_of_length_le (Nat.le_of_eq hyl)]; exact one_pl _) rfl ?_
    · show AV.vec _ _ _ = AV.vec _ _ _
      congr 1
      · first | (simp; done) | (simp; omega)
    rw [hVt, hVd, List.take_of_length_le (Nat.le_of_eq hyl)]
    repeat (refine Run.go rfl ?_)
    refine Run.packTake 6 rfl rfl (by simp [hTl, hDl, hOl]; omega) ?_
    refine Run.ret hg rfl ?_
    show AV.own _ _ _ = AV.own _ _ _
    congr 1
    rw [← List.append_assoc, List.take_append_of_le_length (by simp [hTl, hDl]; omega), hout, List.take_of_length_le (by rw [← hout]; simp [hTl, hDl]; omega)]

theorem fi_idx {l : List Pl} {p : Pl → Bool} : (if 0 ≤ fi p l then fi p l else (l.length : Int)) = (l.findIdx p : Nat) := by
  unfold fi
  have := List.findIdx_le_length (p := p) (xs := l)
  by_cases h : l.findIdx p < l.length
  · rw [if_pos h, if_pos (by omega)]
  · rw [if_neg h, if_neg (by omega)]
    omega

noncomputable def X69 : Fx := ⟨Tryz.prog, tys, 69, Tryz.f69, [0, 1]⟩
theorem X69_ok : X69.Ok := ⟨Tryz.func69, tys_ok⟩
theorem index1_ct (x : Pl) (b : Bk) : Ct Tryz.prog 69 [plA x, .rp (bkA b).cells 0] (bo (decide (0 < uc x.b b))) [] := by
  refine Ct.intro X69 X69_ok rfl rfl rfl rfl fun g hg => ?_
  repeat (refine Run.go rfl ?_)
  refine Run.cs rfl (compare_ct x.b b) rfl rfl ?_
  repeat (refine Run.go rfl ?_)
  exact Run.ret hg rfl rfl

noncomputable def X33 : Fx := ⟨Tryz.prog, tys, 33, Tryz.f33, [0]⟩
theorem X33_ok : X33.Ok := ⟨Tryz.func33, tys_ok⟩
theorem rkIndex_ct (r : Rk) (b : Bk) (ex : Bool) (hlen : r.bs.length ≤ 1048576) : Ct Tryz.prog 33 [rkR ex r, bkA b] (i64 (idx r.bs b : Nat)) [] := by
  refine Ct.intro X33 X33_ok rfl (by kernel_rfl) rfl rfl fun g hg => ?_
  repeat (refine Run.go rfl ?_)
  refine Run.cs rfl (firstOfP_ct r.bs ex _ [.rp (bkA b).cells 0] (fun x => decide (0 < uc x.b b)) hlen rfl fun x _ => index1_ct x b) rfl rfl ?_
  repeat (refine Run.go rfl ?_)
  refine Run.ret hg rfl ?_
  rw [fi_idx]
  rfl

theorem VR.i16 {n : Int} {l : List Pl} (h : VR n l) {i : Nat} (hi : i < l.length) : i16r (l[i].p) ∧ 0 ≤ l[i].p ∧ l[i].p < n := by
  have := h.rng i hi
  have := h.hn
  rw [pa_get hi] at *
  unfold i16r
  omega

noncomputable def X66 : Fx := ⟨Tryz.prog, tys, 66, Tryz.f66, [0, 1]⟩
theorem X66_ok : X66.Ok := ⟨Tryz.func66, tys_ok⟩
theorem room_ct (r : Rk) (ex : Bool) (k : Nat) (h : VR r.pl r.bs) (hk : k ≤ r.bs.length) : Ct Tryz.prog 66 [rkR ex r, i64 k] (.tup [i64 (fr r.bs k), i64 (rm r.pl r.bs k)]) [] := by
  obtain ⟨n, l⟩ := r
  simp only at h hk
  have hlen := h.len
  have hn := h.hn
  have hr := h.rm0 hk
  have hw : IntKind.i64.wrap n = n := wrap_i64 (by omega) (by omega)
  refine Ct.intro X66 X66_ok rfl (by kernel_rfl) rfl rfl fun g hg => ?_
  repeat (refine Run.go rfl ?_)
  refine Run.draw (by kernel_rfl) (by decide +kernel) ?_
  repeat (refine Quiet.go rfl ?_)
  refine Quiet.nil ?_
  repeat (refine Run.go rfl ?_)
  refine Run.condJ ⟨[(1, i64 k), (2, .bp (2, 0) 0), (6, i64 (fr l k)), (7, i64 n)], [((2, 0), .box (rkR ex ⟨n, l⟩).cells)]⟩ rfl (fun h0 k' hN => ?_) (fun h0 k' hN => ?_) ?_
  · have h0 : 0 < k := by simpa using h0
    have hk1 : k - 1 < l.length := by omega
    have hp := h.i16 hk1
    have hkw : IntKind.i64.wrap ((k : Int) - 1) = (k - 1 : Nat) := by rw [wrap_i64 (by omega) (by omega)]; omega
    have hf : fr l k = l[k - 1].p + 1 := by rw [fr, if_pos h0, pa_get hk1]
    repeat (refine Run.go rfl ?_)
    refine Run.val rfl rfl rfl (ValOk.idx (m := (k - 1 : Nat)) (plA l[k - 1]) rfl rfl rfl rfl (by show i64 (IntKind.i64.wrap ((k : Int) - 1)) = _; rw [hkw]) (by omega) (by rw [Int.toNat_natCast, List.getElem?_map, List.getElem?_eq_getElem hk1]; rfl)) rfl ?_
    repeat (refine Run.go rfl ?_)
    refine Run.cs rfl (place_ct l[k - 1] hp.1) rfl rfl ?_
    repeat (refine Run.go rfl ?_)
    refine Run.of hN ⟨rfl, rfl, ?_, ?_, trivial⟩ ⟨rfl, trivial⟩
    · show i64 (IntKind.i64.wrap (l[k - 1].p + 1)) = i64 _
      rw [hf, wrap_i64 (by omega) (by omega)]
    · show i64 (IntKind.i64.wrap n) = i64 n
      rw [hw]
  · have h0 : k = 0 := by simp at h0; omega
    subst h0
    repeat (refine Run.go rfl ?_)
    refine Run.of hN ⟨rfl, rfl, rfl, ?_, trivial⟩ ⟨rfl, trivial⟩
    show i64 (IntKind.i64.wrap n) = i64 n
    rw [hw]
  repeat (refine Run.go rfl ?_)
  refine Run.condJ ⟨[(6, i64 (fr l k)), (7, i64 (too n l k))], []⟩ rfl (fun h0 k' hN => ?_) (fun h0 k' hN => ?_) ?_
  · have h0 : k < l.length := by simpa using h0
    have hp := h.i16 h0
    repeat (refine Run.go rfl ?_)
    refine Run.val rfl rfl rfl (ValOk.idx (plA l[k]) rfl rfl rfl rfl rfl (by omega) (by simp [h0])) rfl ?_
    repeat (refine Run.go rfl ?_)
    refine Run.cs rfl (place_ct l[k] hp.1) rfl rfl ?_
    repeat (refine Run.go rfl ?_)
    refine Run.of hN ⟨rfl, ?_, trivial⟩ trivial
    show i64 l[k].p = i64 (too n l k)
    rw [too, if_pos h0, pa_get h0]
  · have h0 : ¬ k < l.length := by simpa using h0
    repeat (refine Run.go rfl ?_)
    refine Run.of hN ⟨rfl, ?_, trivial⟩ trivial
    show i64 n = i64 (too n l k)
    rw [too, if_neg h0]
  repeat (refine Run.go rfl ?_)
  refine Run.ret hg rfl ?_
  show AV.tup [i64 _, i64 (IntKind.i64.wrap (too n l k - fr l k))] = AV.tup [i64 _, i64 (rm n l k)]
  have : rm n l k = too n l k - fr l k := rfl
  rw [wrap_i64 (by omega) (by omega), this]

noncomputable def X31 : Fx := ⟨Tryz.prog, tys, 31, Tryz.f31, [0]⟩
theorem X31_ok : X31.Ok := ⟨Tryz.func31, tys_ok⟩
theorem isFull_ct (r : Rk) (ex : Bool) (h : i16r r.pl) : Ct Tryz.prog 31 [rkR ex r] (bo (decide ((r.bs.length : Int) = r.pl))) [] := by
  have hw : IntKind.i64.wrap r.pl = r.pl := wrap_i64 (by unfold i16r at h; omega) (by unfold i16r at h; omega)
  refine Ct.intro X31 X31_ok rfl rfl rfl rfl fun g hg => ?_
  repeat (refine Run.go rfl ?_)
  refine Run.ret hg rfl ?_
  show bo (((r.bs.map plA).length : Int) == IntKind.i64.wrap r.pl) = bo _
  rw [List.length_map, hw]
  rfl

/-! Rows of taken places. -/

def rl (D : List Bool) : Nat → Nat × Bool
  | 0 => (0, false)
  | q + 1 => if D.getD q false = true then ((rl D q).1 + 1, (rl D q).2) else (0, true)
def rrF (D : List Bool) : Nat → Nat → Nat × Bool
  | 0, _ => (0, false)
  | f + 1, q => if D.getD q false = true then ((rrF D f (q + 1)).1 + 1, (rrF D f (q + 1)).2) else (0, true)
def rowR (r : Nat × Bool) : AV := .tup [i64 (r.1 : Nat), bo r.2]

noncomputable def X67 : Fx := ⟨Tryz.prog, tys, 67, Tryz.f67, [0, 2]⟩
theorem X67_ok : X67.Ok := ⟨Tryz.func67, tys_ok⟩
theorem rowL_ct (D : List Bool) (ex : Bool) (q : Nat) (hq : q ≤ D.length) (hD : D.length ≤ 60) : Ct Tryz.prog 67 [.ro 1 ex (D.map bof), i64 ((q : Int) - 1), i64 (-1)] (rowR (rl D q)) [] := by
  refine Ct.intro X67 X67_ok rfl (by kernel_rfl) rfl rfl fun g hg => ?_
  repeat (refine Run.go rfl ?_)
  refine Run.loop (fun j : Nat => ⟨[(0, .ro 1 ex (D.map bof)), (1, i64 ((q : Int) - 1 - j)), (2, i64 (-1)), (8, i64 j)], []⟩) (fun j => j ≤ q ∧ rl D q = ((rl D (q - j)).1 + j, (rl D (q - j)).2)) (fun j => q - j) 0 ⟨by omega, rfl⟩ ?_ ?_
  · refine St.Le.mk' ⟨rfl, ?_, rfl, rfl, trivial⟩ trivial
    show i64 ((q : Int) - 1) = i64 ((q : Int) - 1 - (0 : Nat))
    rw [show ((q : Int) - 1 - (0 : Nat)) = (q : Int) - 1 by omega]
  rintro j ⟨hj, hrl⟩ IH
  repeat (refine Run.go rfl ?_)
  refine Run.cs rfl (within64_ct ((q : Int) - 1 - j) 0 (D.length - 1)) (by show [i64 _, i64 _, i64 (IntKind.i64.wrap (((D.map bof).length : Int) - 1))] = _; rw [List.length_map, wrap_i64 (by omega) (by omega)]) rfl ?_
  repeat (refine Run.go rfl ?_)
  refine Run.cond rfl (fun h => ?_) (fun h => ?_)
  · have hlt : j < q := by simp [inr] at h; omega
    have hm : (q : Int) - 1 - j = (q - j - 1 : Nat) := by omega
    have hqj : q - j = (q - j - 1) + 1 := by omega
    have hid : q - j - 1 < D.length := by omega
    rw [hqj, rl] at hrl
    have hgd : D.getD (q - j - 1) false = D[q - j - 1] := by simp [hid]
    rw [hgd] at hrl
    repeat (refine Run.go rfl ?_)
    refine Run.val rfl rfl rfl (ValOk.idx (m := (q - j - 1 : Nat)) (bof D[q - j - 1]) rfl rfl rfl rfl (by show i64 _ = _; rw [hm]) (by omega) (by rw [Int.toNat_natCast, List.getElem?_map, List.getElem?_eq_getElem hid]; rfl)) rfl ?_
    repeat (refine Run.go rfl ?_)
    refine Run.cond rfl (fun h2 => ?_) (fun h2 => ?_)
    · have h2 : D[q - j - 1] = false := by simpa using h2
      rw [h2, if_neg (by decide)] at hrl
      repeat (refine Run.go rfl ?_)
      refine Run.ret hg rfl ?_
      rw [hrl, rowR, Nat.zero_add]
      rfl
    · have h2 : D[q - j - 1] = true := by simpa using h2
      rw [h2, if_pos rfl] at hrl
      repeat (refine Run.go rfl ?_)
      refine Run.of (IH (j + 1) ⟨by omega, ?_⟩ (by omega)) ⟨rfl, ?_, rfl, ?_, trivial⟩ trivial
      · rw [hrl, show q - (j + 1) = q - j - 1 by omega]
        refine Prod.ext ?_ rfl
        show (rl D (q - j - 1)).1 + 1 + j = (rl D (q - j - 1)).1 + (j + 1)
        omega
      · show i64 (IntKind.i64.wrap ((q : Int) - 1 - j + -1)) = i64 ((q : Int) - 1 - (j + 1 : Nat))
        rw [wrap_i64 (by omega) (by omega), show (q : Int) - 1 - j + -1 = (q : Int) - 1 - (j + 1 : Nat) by omega]
      · show i64 (IntKind.i64.wrap _) = _
        rw [wrap_i64 (by omega) (by omega)]
        rfl
  · have hlt : j = q := by simp [inr] at h; omega
    subst hlt
    rw [Nat.sub_self] at hrl
    repeat (refine Run.go rfl ?_)
    refine Run.ret hg rfl ?_
    rw [hrl, rl, rowR, Nat.zero_add]
    rfl

theorem rowRt_ct (D : List Bool) (ex : Bool) (q : Nat) (hq : q ≤ D.length) (hD : D.length ≤ 60) : Ct Tryz.prog 67 [.ro 1 ex (D.map bof), i64 q, i64 1] (rowR (rrF D (D.length - q) q)) [] := by
  refine Ct.intro X67 X67_ok rfl (by kernel_rfl) rfl rfl fun g hg => ?_
  repeat (refine Run.go rfl ?_)
  refine Run.loop (fun j : Nat => ⟨[(0, .ro 1 ex (D.map bof)), (1, i64 ((q + j : Nat) : Int)), (2, i64 1), (8, i64 j)], []⟩) (fun j => q + j ≤ D.length ∧ rrF D (D.length - q) q = ((rrF D (D.length - (q + j)) (q + j)).1 + j, (rrF D (D.length - (q + j)) (q + j)).2)) (fun j => D.length - (q + j)) 0 ⟨by omega, rfl⟩ ?_ ?_
  · exact St.Le.mk' ⟨rfl, rfl, rfl, rfl, trivial⟩ trivial
  rintro j ⟨hj, hrl⟩ IH
  repeat (refine Run.go rfl ?_)
  refine Run.cs rfl (within64_ct ((q + j : Nat) : Int) 0 (D.length - 1)) (by show [i64 _, i64 _, i64 (IntKind.i64.wrap (((D.map bof).length : Int) - 1))] = _; rw [List.length_map, wrap_i64 (by omega) (by omega)]) rfl ?_
  repeat (refine Run.go rfl ?_)
  refine Run.cond rfl (fun h => ?_) (fun h => ?_)
  · have hid : q + j < D.length := by simp [inr] at h; omega
    rw [show D.length - (q + j) = (D.length - (q + (j + 1))) + 1 by omega, rrF] at hrl
    have hgd : D.getD (q + j) false = D[q + j] := by simp [hid]
    rw [hgd] at hrl
    repeat (refine Run.go rfl ?_)
    refine Run.val rfl rfl rfl (ValOk.idx (bof D[q + j]) rfl rfl rfl rfl rfl (by omega) (by rw [Int.toNat_natCast, List.getElem?_map, List.getElem?_eq_getElem hid]; rfl)) rfl ?_
    repeat (refine Run.go rfl ?_)
    refine Run.cond rfl (fun h2 => ?_) (fun h2 => ?_)
    · have h2 : D[q + j] = false := by simpa using h2
      rw [h2, if_neg (by decide)] at hrl
      repeat (refine Run.go rfl ?_)
      refine Run.ret hg rfl ?_
      rw [hrl, rowR, Nat.zero_add]
      rfl
    · have h2 : D[q + j] = true := by simpa using h2
      rw [h2, if_pos rfl] at hrl
      repeat (refine Run.go rfl ?_)
      refine Run.of (IH (j + 1) ⟨by omega, ?_⟩ (by omega)) ⟨rfl, ?_, rfl, ?_, trivial⟩ trivial
      · rw [hrl]
        refine Prod.ext ?_ rfl
        show _ + 1 + j = _ + (j + 1)
        rw [Nat.add_assoc, Nat.add_comm 1 j]
        rfl
      · show i64 (IntKind.i64.wrap _) = i64 _
        rw [wrap_i64 (by omega) (by omega)]
        rfl
      · show i64 (IntKind.i64.wrap _) = _
        rw [wrap_i64 (by omega) (by omega)]
        rfl
  · have hlt : q + j = D.length := by simp [inr] at h; omega
    rw [hlt, Nat.sub_self] at hrl
    repeat (refine Run.go rfl ?_)
    refine Run.ret hg rfl ?_
    rw [hrl, rrF, rowR, Nat.zero_add]
    rfl

theorem tk_at (l : List Pl) {N q : Nat} (hq : q < N) : (tk l N).getD q false = true ↔ ∃ i, i < l.length ∧ pa l i = (q : Int) := by
  rw [List.getD_eq_getElem?_getD, tk_get hq]
  show (l.any fun x => x.p == (q : Int)) = true ↔ _
  rw [List.any_eq_true]
  constructor
  · rintro ⟨x, hx, he⟩
    obtain ⟨i, hi, rfl⟩ := List.getElem_of_mem hx
    exact ⟨i, hi, by rw [pa_get hi]; simpa using he⟩
  · rintro ⟨i, hi, he⟩
    exact ⟨l[i], by simp, by rw [pa_get hi] at he; simpa using he⟩
theorem VR.free {n : Int} {l : List Pl} (h : VR n l) {k : Nat} (hk : k ≤ l.length) {N q : Nat} (hN : n = (N : Int)) (h1 : fr l k ≤ q) (h2 : (q : Int) < too n l k) : (tk l N).getD q false = false := by
  have hqN : q < N := by have := (h.rm0 hk).2.2.2; omega
  cases hx : (tk l N).getD q false with
  | false => rfl
  | true =>
    obtain ⟨i, hi, he⟩ := (tk_at l hqN).1 hx
    exfalso
    by_cases a : i < k
    · have hf : fr l k = pa l (k - 1) + 1 := by rw [fr, if_pos (by omega)]
      by_cases e : i = k - 1
      · subst e; omega
      · have := h.inc i (k - 1) (by omega) (by omega); omega
    · have hf : too n l k = pa l k := by rw [too, if_pos (by omega)]
      by_cases e : i = k
      · subst e; omega
      · have := h.inc k i (by omega) hi; omega

theorem rl_lw {n : Int} {l : List Pl} (h : VR n l) {N : Nat} (hN : n = (N : Int)) : ∀ k, k ≤ l.length → rl (tk l N) (fr l k).toNat = match lw n l k with | some c => (c, true) | none => (k, false)
  | 0, _ => rfl
  | k + 1, hk => by
    have hp := h.rng k (by omega)
    have hf : fr l (k + 1) = pa l k + 1 := by rw [fr, if_pos (by omega), Nat.add_sub_cancel]
    obtain ⟨q, hq⟩ : ∃ q : Nat, pa l k = (q : Int) := ⟨(pa l k).toNat, by omega⟩
    have hqN : q < N := by omega
    have ht : (tk l N).getD q false = true := (tk_at l hqN).2 ⟨k, by omega, hq⟩
    have htoo : too n l k = pa l k := by rw [too, if_pos (by omega)]
    rw [hf, hq, show ((q : Int) + 1).toNat = q + 1 by omega, rl, if_pos ht]
    simp only [lw]
    have h0 := (h.rm0 (k := k) (by omega))
    by_cases hr : 0 < rm n l k
    · rw [if_pos hr]
      unfold rm at hr
      obtain ⟨q', rfl⟩ : ∃ q', q = q' + 1 := ⟨q - 1, by omega⟩
      have := h.free (k := k) (by omega) hN (q := q') (by omega) (by omega)
      rw [rl, if_neg (by rw [this]; decide)]
    · rw [if_neg hr]
      have he : fr l k = (q : Int) := by unfold rm at h0 hr; omega
      have ih := rl_lw h hN k (by omega)
      rw [he, Int.toNat_natCast] at ih
      rw [ih]
      cases lw n l k <;> rfl
theorem rr_hg {n : Int} {l : List Pl} (h : VR n l) {N : Nat} (hN : n = (N : Int)) : ∀ f k, k + f = l.length → rrF (tk l N) (N - (too n l k).toNat) (too n l k).toNat = match hgF n l f k with | some d => (d, true) | none => (f, false)
  | 0, k, hk => by
    rw [too, if_neg (by omega), hN, Int.toNat_natCast, Nat.sub_self]
    rfl
  | f + 1, k, hk => by
    have hp := h.rng k (by omega)
    have htoo : too n l k = pa l k := by rw [too, if_pos (by omega)]
    obtain ⟨q, hq⟩ : ∃ q : Nat, pa l k = (q : Int) := ⟨(pa l k).toNat, by omega⟩
    have hqN : q < N := by omega
    have ht : (tk l N).getD q false = true := (tk_at l hqN).2 ⟨k, by omega, hq⟩
    have hf : fr l (k + 1) = pa l k + 1 := by rw [fr, if_pos (by omega), Nat.add_sub_cancel]
    rw [htoo, hq, Int.toNat_natCast, show N - q = (N - (q + 1)) + 1 by omega, rrF, if_pos ht]
    simp only [hgF]
    have h0 := (h.rm0 (k := k + 1) (by omega))
    by_cases hr : 0 < rm n l (k + 1)
    · rw [if_pos hr]
      unfold rm at hr
      have hq1 : q + 1 < N := by omega
      have := h.free (k := k + 1) (by omega) hN (q := q + 1) (by omega) (by omega)
      rw [show N - (q + 1) = (N - (q + 1 + 1)) + 1 by omega, rrF, if_neg (by rw [this]; decide)]
    · rw [if_neg hr]
      have he : too n l (k + 1) = ((q + 1 : Nat) : Int) := by unfold rm at h0 hr; omega
      have ih := rr_hg h hN f (k + 1) (by omega)
      rw [he, Int.toNat_natCast] at ih
      rw [ih]
      cases hgF n l f (k + 1) <;> rfl

noncomputable def X32 : Fx := ⟨Tryz.prog, tys, 32, Tryz.f32, [0, 1]⟩
theorem X32_ok : X32.Ok := ⟨Tryz.func32, tys_ok⟩
theorem pushed_ct (r : Rk) (ex : Bool) (k : Nat) (h : VR r.pl r.bs) (hk : k ≤ r.bs.length) : Ct Tryz.prog 32 [rkR ex r, i64 k] (rowR (psh r.pl r.bs k)) [] := by
  obtain ⟨n, l⟩ := r
  simp only at h hk
  have hlen := h.len
  have hn := h.hn
  have hr := h.rm0 hk
  obtain ⟨N, hN⟩ : ∃ N : Nat, n = (N : Int) := ⟨n.toNat, by omega⟩
  refine Ct.intro X32 X32_ok rfl (by kernel_rfl) rfl rfl fun g hg => ?_
  repeat (refine Run.go rfl ?_)
  refine Run.cs rfl (room_ct ⟨n, l⟩ ex k h hk) rfl rfl ?_
  repeat (refine Run.go rfl ?_)
  refine Run.cond rfl (fun h0 => ?_) (fun h0 => ?_)
  · have h0 : 0 < rm n l k := by simpa using h0
    repeat (refine Run.go rfl ?_)
    refine Run.ret hg rfl ?_
    show _ = rowR (psh n l k)
    rw [psh, if_pos h0]
    rfl
  have h0 : ¬ 0 < rm n l k := by simpa using h0
  have hz : rm n l k = 0 := by omega
  have hft : fr l k = too n l k := by unfold rm at hz; omega
  obtain ⟨q, hq⟩ : ∃ q : Nat, fr l k = (q : Int) := ⟨(fr l k).toNat, by omega⟩
  have hqN : q ≤ N := by omega
  have hL := rl_lw h hN k hk
  have hR := rr_hg h hN (l.length - k) k (by omega)
  rw [← hft, hq, Int.toNat_natCast] at hR
  rw [hq, Int.toNat_natCast] at hL
  have hpsh : psh n l k = match lw n l k, hgF n l (l.length - k) k with
    | some c, some d => if c ≤ d then (c, true) else (d, false)
    | some c, none => (c, true)
    | none, some d => (d, false)
    | none, none => (l.length - k, false) := by rw [psh, if_neg h0]; rfl
  have hlb : ∀ c, lw n l k = some c → c ≤ 60 := fun c hc => by have := lw_some hc; omega
  have hgb : ∀ d, hgF n l (l.length - k) k = some d → d ≤ 60 := fun d hd => by have := hgF_some hd; omega
  have htl := tk_len l N
  repeat (refine Run.go rfl ?_)
  refine Run.cs rfl (taken_ct ⟨n, l⟩ ex N hN (by omega) (by show l.length ≤ _; omega) fun x hx => by
    obtain ⟨i, hi, rfl⟩ := List.getElem_of_mem hx
    exact ⟨(h.i16 hi).2.1, hN ▸ (h.i16 hi).2.2⟩) rfl (rfBo _) ?_
  refine Run.unpack 22 rfl rfl ?_
  repeat (refine Run.go rfl ?_)
  refine Run.cs rfl (rowL_ct (tk l N) true q (by omega) (by omega)) ?_ rfl ?_
  · show [_, i64 (IntKind.i64.wrap (fr l k - 1)), i64 (-1)] = _
    rw [frzBo, hq, wrap_i64 (by omega) (by omega), decide_eq_true rfl]
    rfl
  repeat (refine Run.go rfl ?_)
  refine Run.cs rfl (rowRt_ct (tk l N) true q (by omega) (by omega)) ?_ rfl ?_
  · show [_, i64 (fr l k), i64 1] = _
    rw [frzBo, hq, decide_eq_true rfl]
    rfl
  rw [hL, htl, hR]
  clear hL hR
  repeat (refine Run.go rfl ?_)
  cases hl : lw n l k with
  | none =>
    repeat (refine Run.go rfl ?_)
    refine Run.cond rfl (fun h => by simp at h) (fun h => ?_)
    repeat (refine Run.go rfl ?_)
    refine Run.ret hg rfl ?_
    show _ = rowR (psh n l k)
    rw [hpsh, hl]
    cases hgF n l (l.length - k) k <;> rfl
  | some c =>
    cases hh : hgF n l (l.length - k) k with
    | none =>
      repeat (refine Run.go rfl ?_)
      refine Run.cond rfl (fun h => ?_) (fun h => by simp at h)
      repeat (refine Run.go rfl ?_)
      refine Run.ret hg rfl ?_
      show _ = rowR (psh n l k)
      rw [hpsh, hl, hh]
      rfl
    | some d =>
      repeat (refine Run.go rfl ?_)
      refine Run.cond rfl (fun h => ?_) (fun h => ?_)
      · have h : c ≤ d := by simpa using h
        repeat (refine Run.go rfl ?_)
        refine Run.ret hg rfl ?_
        show _ = rowR (psh n l k)
        rw [hpsh, hl, hh]
        simp only [if_pos h]
        rfl
      · have h : ¬ c ≤ d := by simpa using h
        repeat (refine Run.go rfl ?_)
        refine Run.ret hg rfl ?_
        show _ = rowR (psh n l k)
        rw [hpsh, hl, hh]
        simp only [if_neg h]
        rfl
end Go.Proofs.YtofakfkmglmhoaaGreat
