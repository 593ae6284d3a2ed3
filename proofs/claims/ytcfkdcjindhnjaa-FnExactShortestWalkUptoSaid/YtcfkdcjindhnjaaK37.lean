/- Contracts of the program's functions, and what follows from them. -/
import Derived.Test.YtcfkdcjindhnjaaK36
set_option linter.unusedVariables false
set_option maxRecDepth 100000
set_option linter.unusedSimpArgs false
namespace Go.Proofs.Ytcfkdcjindhnjaa
open Go Go.Av

def swL (l : List Int) (s : Int) : List Int := if wcode l s = 0 then grd l.length l s else []
def swD (l : List Int) (s : Int) : Int := if wcode l s = 0 then lst l s else 0

theorem cutEq {b : Bool} {x y z : AV} (h1 : b = true → x = z) (h2 : y = z) : (bif b then x else y) = z := by
  cases b with
  | true => exact h1 rfl
  | false => exact h2

theorem first_ge : ∀ (u : List Int) (s : Int), u.Pairwise (· ≤ ·) → ∃ a : Nat, a ≤ u.length ∧ (if 0 ≤ fi (fun x => decide (s ≤ x)) u then fi (fun x => decide (s ≤ x)) u else (u.length : Int)) = (a : Int) ∧ (∀ y ∈ u.take a, y < s) ∧ ∀ y ∈ u.drop a, s ≤ y := by
  intro u s hu
  refine ⟨u.findIdx fun x => decide (s ≤ x), List.findIdx_le_length, ?_, ?_, ?_⟩
  · unfold fi
    by_cases h : (u.findIdx fun x => decide (s ≤ x)) < u.length
    · simp [h]
    · have := List.findIdx_le_length (xs := u) (p := fun x => decide (s ≤ x))
      simp [h]
      omega
  · intro y hy
    obtain ⟨i, hi, rfl⟩ := List.mem_iff_getElem.1 hy
    rw [List.length_take] at hi
    have := List.not_of_lt_findIdx (xs := u) (p := fun x => decide (s ≤ x)) (i := i) (by omega)
    simp at this
    rw [List.getElem_take]
    omega
  · intro y hy
    obtain ⟨i, hi, rfl⟩ := List.mem_iff_getElem.1 hy
    rw [List.length_drop] at hi
    rw [List.getElem_drop]
    have h0 : (u.findIdx fun x => decide (s ≤ x)) < u.length := by omega
    have h1 := List.findIdx_getElem (xs := u) (p := fun x => decide (s ≤ x)) (w := h0)
    simp only [decide_eq_true_eq] at h1
    by_cases hi0 : i = 0
    · subst hi0; simpa using h1
    · have := List.pairwise_iff_getElem.1 hu (u.findIdx fun x => decide (s ≤ x)) ((u.findIdx fun x => decide (s ≤ x)) + i) h0 (by omega) (by omega)
      omega

noncomputable def X6 : Fx := ⟨Try.prog, tys, 6, Try.f6, [0]⟩
theorem X6_ok : X6.Ok := ⟨Try.func6, tys_ok⟩
theorem swI_ct (l : List Int) (ex : Bool) (s : Int) (hl : l.length ≤ 1048576) : Ct Try.prog 6 [.ro 1 ex (l.map i64), i64 s] (.tup [.own 1 false ((swL l s).map i64), i64 (swD l s), i64 (wcode l s)]) [] := by
  refine Ct.intro X6 X6_ok rfl (by kernel_rfl) rfl rfl fun g hg => ?_
  iterate 3 (refine Run.go rfl ?_)
  refine Run.freezeBox (cs := [i64 s]) 3 (3, 0) [i64 s] rfl rfl rfl rfl ?_
  repeat (refine Run.go rfl ?_)
  refine Run.cs rfl (walkCode_ct l ex s (by omega)) rfl rfl ?_
  repeat (refine Run.go rfl ?_)
  refine Run.cond rfl (fun h => ?_) (fun h => ?_)
  · have h : wcode l s ≠ 0 := by simpa using h
    repeat (refine Run.go rfl ?_)
    refine Run.nilSlot 4 1 false rfl ?_
    refine Run.ret hg rfl ?_
    rw [swL, swD, if_neg h, if_neg h]
    rfl
  have h : wcode l s = 0 := by simpa using h
  have hO := wcode_ok h
  have hl : l.length ≤ 60 := hO.len
  rw [swL, swD, if_pos h, if_pos h, h] at hg
  obtain ⟨at', ha1, ha2, ha3, ha4⟩ := first_ge (srtI l) s (srtI_srt l)
  have hp := srtI_perm l
  have hs := srtI_srt l
  have hul := hp.length_eq
  have hmem : ∀ x ∈ srtI l, 0 ≤ x ∧ x ≤ 999 := fun x hx => hO.r x (hp.mem_iff.1 hx)
  obtain ⟨P, hP⟩ : ∃ P, P = (srtI l).take at' := ⟨_, rfl⟩
  obtain ⟨Q, hQ⟩ : ∃ Q, Q = (srtI l).drop at' := ⟨_, rfl⟩
  have hPQ : P ++ Q = srtI l := by rw [hP, hQ, List.take_append_drop]
  rw [← hP] at ha3
  rw [← hQ] at ha4
  obtain ⟨hk1, hk2⟩ := pick_ok (l := l) (p := P) (q := Q) (s := s) (by rw [hPQ]; exact hp.symm) (by rw [hPQ]; exact hs) ha3 ha4
  rw [hPQ] at hk1
  have hbm : ∀ x ∈ Q ++ P.reverse, 0 ≤ x ∧ x ≤ 999 := fun x hx => hmem x (by
    rw [← hPQ]
    rcases List.mem_append.1 hx with e | e
    · exact List.mem_append_right _ e
    · exact List.mem_append_left _ (by simpa using e))
  have hbl : (Q ++ P.reverse).length = l.length := by rw [← hul, ← hPQ]; simp; omega
  have hPl : P.length = at' := by rw [hP, List.length_take]; omega
  have hQl : Q.length = l.length - at' := by rw [hQ, List.length_drop, hul]
  have hO1 : StO (srtI l) s := ⟨by rw [hul]; exact hO.len, hmem, hO.s⟩
  have hO2 : StO (Q ++ P.reverse) s := ⟨by rw [hbl]; exact hO.len, hbm, hO.s⟩
  have hwk : wkL (grd l.length l s) s = lst l s := hk2
  repeat (refine Run.go rfl ?_)
  refine Run.callp rfl rfl rfl rfl rfl rfl rfl rfl rfl (values_ct l ex) (by decide) (by decide) ?_
  repeat (refine Run.go rfl ?_)
  refine Run.callp rfl rfl rfl rfl rfl rfl rfl rfl rfl (sorted_ct l ex (by omega)) (by decide) (by decide) ?_
  generalize srtI l = U at *
  have hUm : (U.map i64).length = l.length := by rw [List.length_map, hul]
  repeat (refine Run.go rfl ?_)
  refine Run.cs rfl (firstOfW_ct U false 17 [.rp [i64 s] 0] (fun x => decide (s ≤ x)) (by omega) rfl (fun x _ => shortest1_ct x s)) (by rw [frz64, decide_eq_true rfl]; rfl) rfl ?_
  rw [ha2]
  repeat (refine Run.go rfl ?_)
  refine Run.val rfl rfl rfl (ValOk.cutv (l := 0) (h := at') rfl rfl rfl rfl rfl rfl rfl (by omega) (by omega) (by omega)) rfl ?_
  refine Run.cs rfl (clone64_ct P false (by omega)) ?_ (rf_own (fun _ => rfl) _) ?_
  · rw [frz64]
    refine congrArg (· :: []) (cutEq (fun hc => ?_) ?_)
    · have hc := of_decide_eq_true (Bool.and_eq_true_iff.1 hc).2
      rw [hP, List.take_of_length_le (by omega)]
    · rw [hP, Int.toNat_natCast, Int.toNat_zero, Nat.sub_zero, List.map_take]
      rfl
  repeat (refine Run.go rfl ?_)
  refine Run.callG (10, 0) rfl rfl rfl rfl rfl rfl rfl rfl (reverse64_ct P false (by omega)) rfl rfl ?_
  repeat (refine Run.go rfl ?_)
  refine Run.val rfl rfl rfl (ValOk.cutv (l := at') (h := (U.map i64).length) rfl rfl rfl rfl rfl rfl rfl (by omega) (by omega) (by omega)) rfl ?_
  refine Run.cs rfl (clone64_ct Q false (by omega)) ?_ (rf_own (fun _ => rfl) _) ?_
  · rw [frz64]
    refine congrArg (· :: []) (cutEq (fun hc => ?_) ?_)
    · have hc := Nat.eq_of_beq_eq_true (Bool.and_eq_true_iff.1 hc).1
      have : at' = 0 := by omega
      rw [hQ, this]; rfl
    · rw [hQ, Int.toNat_natCast, Int.toNat_natCast, Nat.zero_add, List.map_drop, List.take_of_length_le (by rw [List.length_drop]; omega)]
  repeat (refine Run.go rfl ?_)
  refine Run.unpack 33 rfl rfl ?_
  refine Run.appends (ys := P.reverse.map i64) rfl rfl rfl rfl rfl rfl rfl rfl rfl ?_ (lt64 _) rfl rfl rfl (one_i64 _) (by show (_ + _) * 8 ≤ _; simp; omega) (by simp [capMax]; omega) rfl ?_
  · refine (srcOf_vec rfl rfl ?_).trans ?_
    · simp
    · rw [List.drop_zero, List.take_of_length_le (by simp)]
  rw [← List.map_append]
  repeat (refine Run.go rfl ?_)
  refine Run.le (st' := ⟨[(3, .rp [i64 s] 0), (8, .vec (8, 0) 0 (U.map i64).length), (10, .own 1 false ((Q ++ P.reverse).map i64))], [((8, 0), .vec 1 false (U.map i64))]⟩) (St.Le.mk' ⟨rfl, rfl, rfl, trivial⟩ ⟨rfl, trivial⟩) ?_
  generalize hB : Q ++ P.reverse = B at *
  refine Run.unpack 10 rfl rfl ?_
  refine Run.draw (by kernel_rfl) (by decide +kernel) ?_
  repeat (refine Quiet.go rfl ?_)
  refine Quiet.cs rfl rfl rfl rfl rfl (walk_ct U false s hO1) (by rw [frz64, decide_eq_true rfl]; rfl) rfl ?_
  repeat (refine Quiet.go rfl ?_)
  refine Quiet.cs rfl rfl rfl rfl rfl (walk_ct B false s hO2) (by rw [frz64, decide_eq_true rfl]; rfl) rfl ?_
  repeat (refine Quiet.go rfl ?_)
  refine Quiet.cs rfl rfl rfl rfl rfl (compareI_ct _ _) rfl rfl ?_
  repeat (refine Quiet.go rfl ?_)
  refine Quiet.nil ?_
  refine Run.go rfl ?_
  refine Run.region ⟨[(3, .rp [i64 s] 0), (8, .vec (8, 0) 0 (U.map i64).length), (10, .vec (10, 0) 0 (B.map i64).length), (54, bo (decide (wkL U s < wkL B s ∨ wkL U s = wkL B s ∧ cmpL U B ≤ 0)))], [((8, 0), .vec 1 false (U.map i64)), ((10, 0), .vec 1 false (B.map i64))]⟩ ?_ fun k' hN => ?_
  rotate_left
  · have fin : ∀ {c : Bool} {st : St}, decide (wkL U s < wkL B s ∨ wkL U s = wkL B s ∧ cmpL U B ≤ 0) = c → st.get 54 = bo c → st.get 54 = bo (decide (wkL U s < wkL B s ∨ wkL U s = wkL B s ∧ cmpL U B ≤ 0)) := fun e h => by rw [e]; exact h
    have hcI : ∀ a b : Int, (cmpI a b < 0 ↔ a < b) ∧ (cmpI a b = 0 ↔ a = b) := fun a b => by unfold cmpI; repeat' split <;> constructor <;> omega
    obtain ⟨c1, c2⟩ := hcI (wkL U s) (wkL B s)
    generalize cmpI (wkL U s) (wkL B s) = c at c1 c2
    repeat (refine Run.go rfl ?_)
    refine Run.bool 45 rfl (fun h1 => ?_) (fun h1 => ?_)
    · have h1 : c < 0 := of_decide_eq_true h1
      repeat (refine Run.go rfl ?_)
      exact Run.of hN ⟨rfl, rfl, rfl, fin (decide_eq_true (.inl (c1.1 h1))) rfl, trivial⟩ ⟨rfl, rfl, trivial⟩
    · have h1 : ¬ c < 0 := of_decide_eq_false h1
      repeat (refine Run.go rfl ?_)
      refine Run.bool 48 rfl (fun h2 => ?_) (fun h2 => ?_)
      · have h2 : c = 0 := by simpa using h2
        repeat (refine Run.go rfl ?_)
        refine Run.cs rfl (compare64_ct U B false false (by omega)) (by rw [frz64, frz64, decide_eq_true rfl, decide_eq_true rfl]; rfl) rfl ?_
        repeat (refine Run.go rfl ?_)
        refine Run.of hN ⟨rfl, rfl, rfl, fin (c := decide (cmpL U B ≤ 0)) ?_ rfl, trivial⟩ ⟨rfl, rfl, trivial⟩
        refine decide_eq_decide.2 ?_
        have := c2.1 h2
        constructor
        · rintro (h | ⟨_, h⟩)
          · omega
          · exact h
        · exact fun h => .inr ⟨this, h⟩
      · have h2 : ¬ c = 0 := by simpa using h2
        repeat (refine Run.go rfl ?_)
        exact Run.of hN ⟨rfl, rfl, rfl, fin (decide_eq_false fun h => h.elim (fun h => h1 (c1.2 h)) fun h => h2 (c2.2 h.1)) rfl, trivial⟩ ⟨rfl, rfl, trivial⟩
  refine Run.cond rfl (fun h3 => ?_) (fun h3 => ?_)
  · rw [if_pos (of_decide_eq_true h3)] at hk1
    rw [← hk1] at hg hwk
    repeat (refine Run.go rfl ?_)
    refine Run.cs rfl (walk_ct U false s hO1) (by rw [frz64, decide_eq_true rfl]; rfl) rfl ?_
    repeat (refine Run.go rfl ?_)
    refine Run.pack 4 rfl rfl rfl ?_
    rw [hwk]
    exact Run.ret hg rfl rfl
  · rw [if_neg (of_decide_eq_false h3)] at hk1
    rw [← hk1] at hg hwk
    repeat (refine Run.go rfl ?_)
    refine Run.cs rfl (walk_ct B false s hO2) (by rw [frz64, decide_eq_true rfl]; rfl) rfl ?_
    repeat (refine Run.go rfl ?_)
    refine Run.pack 4 rfl rfl rfl ?_
    rw [hwk]
    exact Run.ret hg rfl rfl
end Go.Proofs.Ytcfkdcjindhnjaa
