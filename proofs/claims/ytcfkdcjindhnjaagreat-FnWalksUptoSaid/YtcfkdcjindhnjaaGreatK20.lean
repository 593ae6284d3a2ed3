/- Contracts of the program's functions, and what follows from them. -/
import Derived.Test.YtcfkdcjindhnjaaGreatK19
import Derived.Test.YtcfkdcjindhnjaaGreatMF
set_option linter.unusedVariables false
set_option maxRecDepth 100000
set_option linter.unusedSimpArgs false
namespace Go.Proofs.YtcfkdcjindhnjaaGreat
open Go Go.Av

/-! A drawn list of books. -/

theorem hmb (l : List Bk) : (l.map bkA).length = l.length := List.length_map ..
theorem swp_mem {S : List Bk} {i j : Nat} {y : Bk} {a b : Bk} (ha : a ∈ S) (hb : b ∈ S) (h : y ∈ (S.set i a).set j b) : y ∈ S := by
  rcases List.mem_or_eq_of_mem_set h with h | rfl
  · rcases List.mem_or_eq_of_mem_set h with h | rfl
    · exact h
    · exact ha
  · exact hb

noncomputable def X35 : Fx := ⟨Tryz.prog, tys, 35, Tryz.f35, [0]⟩
theorem X35_ok : X35.Ok := ⟨Tryz.func35, tys_ok⟩
set_option maxHeartbeats 4000000 in
theorem l01Drawn_ct (ex : Bool) (C : List Int) (hC : C.length ≤ 1048576) (hb : ∀ x ∈ C, 0 ≤ x ∧ x ≤ 255) (n s : Int) (hn : 0 ≤ n ∧ n ≤ 999900000) :
    ∃ (L : List Bk) (n' s' : Int), L.length ≤ 11 ∧ (∀ x ∈ L, bOk x) ∧ (n ≤ n' ∧ n' ≤ n + 200) ∧ CtG Tryz.prog 35 [.bp lid 0] (.box (srcL ex C n s)) (.own 8 false (L.map bkA)) (.box (srcL ex C n' s')) := by
  obtain ⟨k, n1, s1, hk, hn1, c1⟩ := pick_ct ex C hC hb n s 12 (by omega) (by omega)
  obtain ⟨l, N, Q, hl, hal, hN, hQ, hNm, hc⟩ := books_all ex C hC hb k.toNat n1 s1 (by omega) (by omega)
  have hkl : k = (l.length : Int) := by omega
  subst hkl
  rw [Int.toNat_natCast] at hNm
  obtain ⟨b1, n3, s3, hn3, c3⟩ := one_ct ex C hC hb (N l.length) (Q l.length) 2 (by omega) (by omega)
  obtain ⟨b2, n4, s4, hn4, c4⟩ := one_ct ex C hC hb n3 s3 2 (by omega) (by omega)
  have hSl : (srtL l).length = l.length := by
    have := (srtL_ok l (fun x hx => (hal x hx).1) [] List.Pairwise.nil (by simp)).2.1
    simpa [srtL] using this
  have hSm : ∀ y ∈ srtL l, bOk y := fun y hy => by
    rcases (srtL_ok l (fun x hx => (hal x hx).1) [] List.Pairwise.nil (by simp)).2.2 y hy with h | h
    · exact hal y h
    · simp at h
  have cS := l01Sorted_ct l true false (fun x hx => (hal x hx).1) (by omega)
  generalize hSd : srtL l = S at hSl hSm cS
  have hml : ((S.map bkA).length : Nat) = S.length := hmb S
  obtain ⟨i, n5, s5, hi, hn5, c5⟩ := pick_ct ex C hC hb n4 s4 (if 1 < S.length then ((S.map bkA).length : Nat) else 1) (by omega) (by split <;> omega)
  obtain ⟨j, n6, s6, hj, hn6, c6⟩ := pick_ct ex C hC hb n5 s5 (if 1 < S.length then ((S.map bkA).length : Nat) else 1) (by omega) (by split <;> omega)
  refine ⟨if b1 = true then (if 1 < S.length ∧ b2 = true then (S.set i.toNat (S.getD j.toNat bk0)).set j.toNat (S.getD i.toNat bk0) else S) else l,
    if b1 = true then (if 1 < S.length then (if b2 = true then n6 else n4) else n3) else n3, if b1 = true then (if 1 < S.length then (if b2 = true then s6 else s4) else s3) else s3, ?_, ?_, ?_, ?_⟩
  · split
    · split
      · rw [List.length_set, List.length_set]; omega
      · omega
    · omega
  · intro x hx
    split at hx
    · split at hx
      · rename_i hc2
        rw [if_pos hc2.1] at hi hj
        have e : ∀ q : Int, 0 ≤ q → q < ((S.map bkA).length : Nat) → S.getD q.toNat bk0 ∈ S := by
          intro q h0 h1
          rw [List.getD_eq_getElem?_getD, List.getElem?_eq_getElem (by omega)]
          exact List.getElem_mem _
        exact hSm x (swp_mem (e j hj.1 hj.2) (e i hi.1 hi.2) hx)
      · exact hSm x hx
    · exact hal x hx
  · repeat' split
    all_goals omega
  refine CtG.intro X35 X35_ok rfl (by kernel_rfl) rfl rfl rfl rfl rfl fun g v0 hg => ?_
  repeat (refine Run.go rfl ?_)
  refine Run.buildSlice [] rfl rfl rfl rfl rfl rfl rfl rfl rfl rfl rfl rfl rfl rfl ?_
  iterate 2 (refine Run.go rfl ?_)
  refine Run.loosen0 3 rfl ?_
  repeat (refine Run.go rfl ?_)
  refine Run.callG lid rfl rfl rfl rfl rfl rfl rfl rfl c1 rfl rfl ?_
  repeat (refine Run.go rfl ?_)
  refine Run.loop (fun j : Nat => ⟨[(0, .bp lid 0), (3, .own 8 false ((l.take j).map bkA)), (4, i64 ((l.length - j : Nat) : Int))], [(lid, .box (srcL ex C (N j) (Q j))), (lidT, .tie v0 lid)]⟩) (fun j => j ≤ l.length) (fun j => l.length - j) 0 (by omega) ?_ ?_
  · rw [hN, hQ]
    exact St.Le.mk' ⟨rfl, rfl, rfl, trivial⟩ ⟨rfl, rfl, trivial⟩
  intro t ht IH
  repeat (refine Run.go rfl ?_)
  refine Run.cond rfl (fun h => ?_) (fun h => ?_)
  · have hlt : t < l.length := by
      have : (((l.length - t : Nat) : Int)) > 0 := of_decide_eq_true h
      omega
    repeat (refine Run.go rfl ?_)
    refine Run.callG lid rfl rfl rfl rfl rfl rfl rfl rfl (hc t hlt) rfl rfl ?_
    refine Run.buildSlice [bkA l[t]] rfl rfl rfl rfl rfl rfl rfl rfl rfl rfl rfl rfl rfl rfl ?_
    refine Run.appendo rfl rfl rfl rfl rfl rfl rfl rfl rfl rfl rfl rfl rfl rfl (by show (((l.take t).map bkA).length + 1) * 14 ≤ 140737488355328; rw [List.length_map, List.length_take]; omega) (by simp [capMax]; omega) (by decide) rfl ?_
    repeat (refine Run.go rfl ?_)
    refine Run.of (IH (t + 1) (by omega) (by omega)) ⟨rfl, ?_, ?_, trivial⟩ ⟨rfl, rfl, trivial⟩
    · show AV.own _ _ _ = AV.own _ _ _
      rw [List.take_succ_eq_append_getElem hlt, List.map_append]
      rfl
    · show i64 _ = i64 _
      rw [wrap_i64 (by omega) (by omega)]
      congr 1
      omega
  have ht' : t = l.length := by
    have : ¬ (((l.length - t : Nat) : Int)) > 0 := of_decide_eq_false h
    omega
  subst ht'
  rw [List.take_length]
  repeat (refine Run.go rfl ?_)
  refine Run.callG lid rfl rfl rfl rfl rfl rfl rfl rfl c3 rfl rfl ?_
  repeat (refine Run.go rfl ?_)
  refine Run.cond rfl (fun hb1 => ?_) (fun hb1 => ?_)
  rotate_left
  · have hb1 : ¬ b1 = true := by simpa using hb1
    rw [if_neg hb1, if_neg hb1, if_neg hb1] at hg
    repeat (refine Run.go rfl ?_)
    refine Run.pack 2 rfl rfl (by simp) ?_
    exact Run.retG hg rfl rfl rfl rfl rfl rfl
  rw [if_pos hb1, if_pos hb1, if_pos hb1] at hg
  refine Run.freeze (v' := .ro 8 false (l.map bkA)) 3 rfl rfl (by show AV.ro _ _ (AV.frzL _) = _; rw [frzB]) ?_
  repeat (refine Run.go rfl ?_)
  refine Run.buildSlice usl rfl rfl rfl rfl rfl rfl rfl rfl rfl rfl rfl rfl rfl rfl ?_
  refine Run.freeze (v' := .ro 1 true usl) 22 rfl rfl rfl ?_
  repeat (refine Run.go rfl ?_)
  refine Run.cs rfl cS rfl (rfB _) ?_
  repeat (refine Run.go rfl ?_)
  refine Run.bool 28 rfl (fun h1 => ?_) (fun h1 => ?_)
  rotate_left
  · have h1 : ¬ 1 < S.length := by have := of_decide_eq_false h1; omega
    rw [if_neg (fun h => h1 h.1), if_neg h1, if_neg h1] at hg
    repeat (refine Run.go rfl ?_)
    refine Run.cond rfl (fun h => by simp at h) (fun _ => ?_)
    repeat (refine Run.go rfl ?_)
    refine Run.pack 2 rfl rfl (by simp) ?_
    exact Run.retG hg rfl rfl rfl rfl rfl rfl
  have h1 : 1 < S.length := by have := of_decide_eq_true h1; omega
  rw [if_pos h1, if_pos h1] at hg
  repeat (refine Run.go rfl ?_)
  refine Run.callG lid rfl rfl rfl rfl rfl rfl rfl rfl c4 rfl rfl ?_
  repeat (refine Run.go rfl ?_)
  refine Run.cond rfl (fun hb2 => ?_) (fun hb2 => ?_)
  rotate_left
  · have hb2 : ¬ b2 = true := by
      have hb2 : b2 = false := hb2
      rw [hb2]; decide
    rw [if_neg (fun h => hb2 h.2), if_neg hb2, if_neg hb2] at hg
    repeat (refine Run.go rfl ?_)
    refine Run.pack 2 rfl rfl (by simp) ?_
    exact Run.retG hg rfl rfl rfl rfl rfl rfl
  have hb2 : b2 = true := hb2
  rw [if_pos ⟨h1, hb2⟩, if_pos hb2, if_pos hb2] at hg
  rw [if_pos h1] at c5 c6 hi hj
  have hiS : i.toNat < S.length := by omega
  have hjS : j.toNat < S.length := by omega
  have egi : S.getD i.toNat bk0 = S[i.toNat] := by rw [List.getD_eq_getElem?_getD, List.getElem?_eq_getElem hiS]; rfl
  have egj : S.getD j.toNat bk0 = S[j.toNat] := by rw [List.getD_eq_getElem?_getD, List.getElem?_eq_getElem hjS]; rfl
  rw [egi, egj, List.map_set, List.map_set] at hg
  have hati : (S.map bkA)[0 + i.toNat]? = some (bkA S[i.toNat]) := by rw [Nat.zero_add, List.getElem?_map, List.getElem?_eq_getElem hiS]; rfl
  have hatj : (S.map bkA)[0 + j.toNat]? = some (bkA S[j.toNat]) := by rw [Nat.zero_add, List.getElem?_map, List.getElem?_eq_getElem hjS]; rfl
  have hatj2 : ((S.map bkA).set (0 + i.toNat) (bkA S[j.toNat]))[0 + j.toNat]? = some (bkA S[j.toNat]) := by
    rw [List.getElem?_set]
    split
    · rw [if_pos (by omega)]
    · exact hatj
  repeat (refine Run.go rfl ?_)
  refine Run.callG lid rfl rfl rfl rfl rfl rfl rfl rfl c5 rfl rfl ?_
  repeat (refine Run.go rfl ?_)
  refine Run.callG lid rfl rfl rfl rfl rfl rfl rfl rfl c6 rfl rfl ?_
  repeat (refine Run.go rfl ?_)
  refine Run.val rfl rfl rfl (ValOk.idxv (m := i) rfl rfl rfl rfl rfl rfl hi.1 (by omega)) rfl ?_
  refine Run.val rfl rfl rfl (ValOk.loadv (bkA S[i.toNat]) rfl rfl rfl rfl hati rfl) rfl ?_
  repeat (refine Run.go rfl ?_)
  refine Run.val rfl rfl rfl (ValOk.idxv (m := j) rfl rfl rfl rfl rfl rfl hj.1 (by omega)) rfl ?_
  refine Run.val rfl rfl rfl (ValOk.loadv (bkA S[j.toNat]) rfl rfl rfl rfl hatj rfl) rfl ?_
  refine Run.val rfl rfl rfl (ValOk.idxv (m := i) rfl rfl rfl rfl rfl rfl hi.1 (by omega)) rfl ?_
  refine Run.storee (bkA S[i.toNat]) (bkA S[j.toNat]) rfl rfl rfl rfl rfl rfl rfl hati rfl rfl rfl ?_
  repeat (refine Run.go rfl ?_)
  refine Run.val rfl rfl rfl (ValOk.idxv (m := j) rfl rfl rfl rfl rfl rfl hj.1 (by omega)) rfl ?_
  refine Run.storee (bkA S[j.toNat]) (bkA S[i.toNat]) rfl rfl rfl rfl rfl rfl rfl hatj2 rfl rfl rfl ?_
  rw [Nat.zero_add, Nat.zero_add]
  repeat (refine Run.go rfl ?_)
  refine Run.pack 2 rfl rfl (by simp) ?_
  exact Run.retG hg rfl rfl rfl rfl rfl rfl
end Go.Proofs.YtcfkdcjindhnjaaGreat
