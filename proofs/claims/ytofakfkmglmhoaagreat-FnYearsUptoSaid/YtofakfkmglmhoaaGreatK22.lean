/- Contracts of the program's functions, and what follows from them. -/
import Derived.Test.YtofakfkmglmhoaaGreatK21
import Derived.Test.YtofakfkmglmhoaaGreatK11
set_option linter.unusedVariables false
set_option maxRecDepth 100000
set_option linter.unusedSimpArgs false
namespace Go.Proofs.YtofakfkmglmhoaaGreat
open Go Go.Av

/-! The law of years: a drawn rack, drawn years. -/

noncomputable def X5 : Fx := ⟨Tryz.prog, tys, 5, Tryz.f5, [0]⟩
theorem X5_ok : X5.Ok := ⟨Tryz.func5, tys_ok⟩
theorem P6Rack_ct (ex : Bool) (C : List Int) (hC : C.length ≤ 1048576) (hb : ∀ x ∈ C, 0 ≤ x ∧ x ≤ 255) :
    ∃ r : Rk, VR r.pl r.bs ∧ (∀ x ∈ r.bs, bkRng x.b) ∧ Ct Tryz.prog 5 [.ro 1 ex (C.map u8)] (rkO false r) [] := by
  obtain ⟨r, n', s', hV, hB, hn, c1⟩ := l05Drawn_ct ex C hC hb 0 0 (by omega)
  refine ⟨r, hV, hB, ?_⟩
  obtain ⟨n, l⟩ := r
  refine Ct.intro X5 X5_ok rfl (by kernel_rfl) rfl rfl fun g hg => ?_
  repeat (refine Run.go rfl ?_)
  refine Run.callN rfl rfl rfl rfl rfl rfl rfl from_calls rfl rfl ?_
  refine Run.callG (4, 0) rfl rfl rfl rfl rfl rfl rfl rfl c1 rfl rfl ?_
  refine Run.unagg 5 1 (5, 1) rfl rfl rfl ?_
  repeat (refine Run.go rfl ?_)
  refine Run.packBox (2, 0) 1 rfl rfl rfl rfl ?_
  exact Run.ret hg rfl rfl

def blF (l : List Bk) : AV := .own 8 false (l.map bkA)
theorem blF_rf (l : List Bk) : (blF l).rf = true := by simp only [blF, AV.rf, rfB]
theorem blF_frz (l : List Bk) : (blF l).frz = blA false l := by simp only [blF, blA, AV.frz, frzB]
theorem frzBF (ys : List (List Bk)) : AV.frzL (ys.map blF) = ys.map (blA false) := by
  induction ys with
  | nil => rfl
  | cons y ys ih => simp only [List.map_cons, AV.frzL, blF_frz, ih]
theorem rfBF (ys : List (List Bk)) : AV.rfL (ys.map blF) = true := by
  induction ys with
  | nil => rfl
  | cons y ys ih => simp only [List.map_cons, AV.rfL, blF_rf, ih, Bool.and_self]

theorem years_all (ex : Bool) (C : List Int) (hC : C.length ≤ 1048576) (hb : ∀ x ∈ C, 0 ≤ x ∧ x ≤ 255) : ∀ (k : Nat) (n s : Int), 0 ≤ n → n + 40 * k ≤ 999999000 → ∃ (ys : List (List Bk)) (N S : Nat → Int), ys.length = k ∧ (∀ y ∈ ys, y.length ≤ 2 ∧ ∀ b ∈ y, bOk b) ∧ N 0 = n ∧ S 0 = s ∧
    ∀ j (hj : j < ys.length), ∃ A B : Nat → Int, CtG Tryz.prog 25 [.bp lid 0, i64 3] (.box (srcL ex C (N j) (S j))) (i64 (ys[j].length : Nat)) (.box (srcL ex C (A 0) (B 0))) ∧
      (∀ t (ht : t < ys[j].length), CtG Tryz.prog 26 [.bp lid 0] (.box (srcL ex C (A t) (B t))) (bkA ys[j][t]) (.box (srcL ex C (A (t + 1)) (B (t + 1))))) ∧ A ys[j].length = N (j + 1) ∧ B ys[j].length = S (j + 1) := by
  intro k
  induction k with
  | zero => intro n s h0 h1; exact ⟨[], fun _ => n, fun _ => s, rfl, by simp, rfl, rfl, by intro j hj; simp at hj⟩
  | succ k ih =>
    intro n s h0 h1
    obtain ⟨m, n1, s1, hm, hn1, c1⟩ := pick_ct ex C hC hb n s 3 (by omega) (by omega)
    obtain ⟨l, A, B, hl, hal, hA, hB, hAm, hc⟩ := books_all ex C hC hb m.toNat n1 s1 (by omega) (by omega)
    have hml : m = (l.length : Int) := by omega
    subst hml
    rw [Int.toNat_natCast] at hAm
    obtain ⟨ys, N, S, hys, hya, hN, hS, hcs⟩ := ih (A l.length) (B l.length) (by omega) (by omega)
    refine ⟨l :: ys, fun j => match j with | 0 => n | j + 1 => N j, fun j => match j with | 0 => s | j + 1 => S j, by simp [hys], ?_, rfl, rfl, ?_⟩
    · intro y hy
      rcases List.mem_cons.1 hy with rfl | hy
      · exact ⟨by omega, hal⟩
      · exact hya y hy
    · intro j hj
      cases j with
      | zero =>
        refine ⟨A, B, ?_, hc, hN.symm, hS.symm⟩
        show CtG _ _ _ (.box (srcL ex C n s)) (i64 (l.length : Nat)) _
        rw [hA, hB]
        exact c1
      | succ j => exact hcs j (by simpa using hj)

noncomputable def X6 : Fx := ⟨Tryz.prog, tys, 6, Tryz.f6, [0]⟩
theorem X6_ok : X6.Ok := ⟨Tryz.func6, tys_ok⟩
set_option maxHeartbeats 2000000 in
theorem P6Years_ct (ex : Bool) (C : List Int) (hC : C.length ≤ 1048576) (hb : ∀ x ∈ C, 0 ≤ x ∧ x ≤ 255) :
    ∃ ys : List (List Bk), ys.length ≤ 2 ∧ (∀ y ∈ ys, y.length ≤ 2 ∧ ∀ b ∈ y, bOk b) ∧ Ct Tryz.prog 6 [.ro 1 ex (C.map u8)] (.own 1 false (ys.map blF)) [] := by
  obtain ⟨k, n1, s1, hk, hn1, c1⟩ := pick_ct ex C hC hb 0 0 3 (by omega) (by omega)
  obtain ⟨ys, N, S, hys, hya, hN, hS, hcs⟩ := years_all ex C hC hb k.toNat n1 s1 (by omega) (by omega)
  have hkl : k = (ys.length : Int) := by omega
  subst hkl
  refine ⟨ys, by omega, hya, ?_⟩
  refine Ct.intro X6 X6_ok rfl (by kernel_rfl) rfl rfl fun g hg => ?_
  repeat (refine Run.go rfl ?_)
  refine Run.callN rfl rfl rfl rfl rfl rfl rfl from_calls rfl rfl ?_
  repeat (refine Run.go rfl ?_)
  refine Run.buildSlice [] rfl rfl rfl rfl rfl rfl rfl rfl rfl rfl rfl rfl rfl rfl ?_
  iterate 2 (refine Run.go rfl ?_)
  refine Run.loosen0 4 rfl ?_
  repeat (refine Run.go rfl ?_)
  refine Run.callG (9, 0) rfl rfl rfl rfl rfl rfl rfl rfl c1 rfl rfl ?_
  repeat (refine Run.go rfl ?_)
  refine Run.loop (fun j : Nat => ⟨[(3, .bp (9, 0) 0), (4, .own 1 false ((ys.take j).map blF)), (5, i64 ((ys.length - j : Nat) : Int))], [((9, 0), .box (srcL ex C (N j) (S j)))]⟩) (fun j => j ≤ ys.length) (fun j => ys.length - j) 0 (by omega) ?_ ?_
  · rw [hN, hS]
    exact St.Le.mk' ⟨rfl, rfl, rfl, trivial⟩ ⟨rfl, trivial⟩
  intro j hj IH
  repeat (refine Run.go rfl ?_)
  refine Run.cond rfl (fun h => ?_) (fun h => ?_)
  · have hlt : j < ys.length := by
      have : (((ys.length - j : Nat) : Int)) > 0 := of_decide_eq_true h
      omega
    obtain ⟨A, B, c2, hc, hA, hB⟩ := hcs j hlt
    have hy2 := (hya ys[j] (by simp)).1
    have hDl : ((ys.take j).map blF).length = j := by rw [List.length_map, List.length_take]; omega
    have hst : (ys.take (j + 1)).map blF = (ys.take j).map blF ++ [blF ys[j]] := by
      rw [List.take_succ_eq_append_getElem hlt, List.map_append]
      rfl
    have IH1 := IH (j + 1) (by omega) (by omega)
    rw [hst, ← hA, ← hB] at IH1
    generalize (ys.take j).map blF = D0 at *
    generalize ys[j] = y at *
    have hlast : ∀ z : AV, (D0 ++ [z])[j]? = some z := fun z => by rw [← hDl]; exact List.getElem?_concat_length
    have hset : ∀ z w : AV, (D0 ++ [z]).set j w = D0 ++ [w] := fun z w => by rw [← hDl, List.set_append_right _ _ (Nat.le_refl _), Nat.sub_self]; rfl
    repeat (refine Run.go rfl ?_)
    refine Run.buildSlice [] rfl rfl rfl rfl rfl rfl rfl rfl rfl rfl rfl rfl rfl rfl ?_
    iterate 2 (refine Run.go rfl ?_)
    refine Run.loosen0 6 rfl ?_
    repeat (refine Run.go rfl ?_)
    refine Run.callG (9, 0) rfl rfl rfl rfl rfl rfl rfl rfl c2 rfl rfl ?_
    repeat (refine Run.go rfl ?_)
    refine Run.loop (fun t : Nat => ⟨[(3, .bp (9, 0) 0), (4, .own 1 false D0), (5, i64 ((ys.length - j : Nat) : Int)), (6, .own 8 false ((y.take t).map bkA)), (7, i64 ((y.length - t : Nat) : Int))], [((9, 0), .box (srcL ex C (A t) (B t)))]⟩) (fun t => t ≤ y.length) (fun t => y.length - t) 0 (by omega) ?_ ?_
    · exact St.Le.mk' ⟨rfl, rfl, rfl, rfl, rfl, trivial⟩ ⟨rfl, trivial⟩
    intro t ht IH2
    repeat (refine Run.go rfl ?_)
    refine Run.cond rfl (fun h => ?_) (fun h => ?_)
    · have hlt2 : t < y.length := by
        have : (((y.length - t : Nat) : Int)) > 0 := of_decide_eq_true h
        omega
      repeat (refine Run.go rfl ?_)
      refine Run.callG (9, 0) rfl rfl rfl rfl rfl rfl rfl rfl (hc t hlt2) rfl rfl ?_
      refine Run.buildSlice [bkA y[t]] rfl rfl rfl rfl rfl rfl rfl rfl rfl rfl rfl rfl rfl rfl ?_
      refine Run.appendo rfl rfl rfl rfl rfl rfl rfl rfl rfl rfl rfl rfl rfl rfl (by show (((y.take t).map bkA).length + 1) * 14 ≤ 140737488355328; rw [List.length_map, List.length_take]; omega) (by simp [capMax]; omega) (by decide) rfl ?_
      repeat (refine Run.go rfl ?_)
      refine Run.of (IH2 (t + 1) (by omega) (by omega)) ⟨rfl, rfl, rfl, ?_, ?_, trivial⟩ ⟨rfl, trivial⟩
      · show AV.own _ _ _ = AV.own _ _ _
        rw [List.take_succ_eq_append_getElem hlt2, List.map_append]
        rfl
      · show i64 _ = i64 _
        rw [wrap_i64 (by omega) (by omega)]
        congr 1
        omega
    have ht' : t = y.length := by
      have : ¬ (((y.length - t : Nat) : Int)) > 0 := of_decide_eq_false h
      omega
    subst ht'
    rw [List.take_length]
    repeat (refine Run.go rfl ?_)
    refine Run.pack 30 rfl rfl (by simp) ?_
    refine Run.open1 30 (30, 4) (30, 5) rfl rfl (by decide) rfl fun P n => ?_
    refine Run.buildSlice [.lit (.slice P (y.map bkA).length n)] rfl rfl rfl rfl rfl rfl rfl rfl rfl rfl rfl rfl rfl rfl ?_
    refine Run.appendo rfl rfl rfl rfl rfl rfl rfl rfl rfl rfl rfl rfl rfl rfl (by rw [hDl]; show (_ + 1) * 24 ≤ _; omega) (by rw [hDl]; show _ + 1 ≤ 9223372036854775807; omega) (by decide) rfl ?_
    refine Run.unpack 32 rfl rfl ?_
    refine Run.recell1 (32, 0) (30, 4) (30, 5) j 0 (.lit (.slice P (y.map bkA).length n)) rfl (hlast _) rfl rfl rfl rfl (by decide) ?_
    rw [hset]
    repeat (refine Run.go rfl ?_)
    refine Run.pack 4 rfl rfl ?_ ?_
    · rw [List.length_append, List.length_append]; rfl
    refine Run.of IH1 ⟨rfl, rfl, ?_, trivial⟩ ⟨rfl, trivial⟩
    show i64 _ = i64 _
    rw [wrap_i64 (by omega) (by omega)]
    congr 1
    omega
  · have hj' : j = ys.length := by
      have : ¬ (((ys.length - j : Nat) : Int)) > 0 := of_decide_eq_false h
      omega
    subst hj'
    rw [List.take_length]
    repeat (refine Run.go rfl ?_)
    refine Run.pack 2 rfl rfl (by simp) ?_
    exact Run.ret hg rfl rfl
end Go.Proofs.YtofakfkmglmhoaaGreat
