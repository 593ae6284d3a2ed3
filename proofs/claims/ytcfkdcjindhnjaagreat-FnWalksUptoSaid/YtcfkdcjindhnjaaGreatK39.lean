/- Contracts of the program's functions, and what follows from them. -/
import Derived.Test.YtcfkdcjindhnjaaGreatK38
import Derived.Test.YtcfkdcjindhnjaaGreatK25
import Derived.Test.YtcfkdcjindhnjaaGreatMC
import Derived.Test.YtcfkdcjindhnjaaGreatME
import Derived.Test.YtcfkdcjindhnjaaGreatMD
set_option linter.unusedVariables false
set_option maxRecDepth 100000
set_option linter.unusedSimpArgs false
namespace Go.Proofs.YtcfkdcjindhnjaaGreat
open Go Go.Av

/-! Stops drawn; the length of a walk; totals. -/

noncomputable def X9 : Fx := ⟨Tryz.prog, tys, 9, Tryz.f9, [0, 1]⟩
theorem X9_ok : X9.Ok := ⟨Tryz.func9, tys_ok⟩
theorem implWalkLength_ct (l : List Int) (ex : Bool) (s : Int) (h : wcode l s = 0) : Ct Tryz.prog 9 [.ro 1 ex (l.map i64), i64 s] (.tup [i64 (wkL l s), i64 0]) [] := by
  have hO := wcode_ok h
  have hlen := hO.len
  refine Ct.intro X9 X9_ok rfl (by kernel_rfl) rfl rfl fun g hg => ?_
  repeat (refine Run.go rfl ?_)
  refine Run.cs rfl (walkCode_ct l ex s (by omega)) rfl rfl ?_
  rw [h]
  repeat (refine Run.go rfl ?_)
  refine Run.cond rfl (fun h => by simp at h) (fun h => ?_)
  repeat (refine Run.go rfl ?_)
  refine Run.cs rfl (walk_ct l ex s hO) rfl rfl ?_
  repeat (refine Run.go rfl ?_)
  exact Run.ret hg rfl rfl

noncomputable def X14 : Fx := ⟨Tryz.prog, tys, 14, Tryz.f14, [0]⟩
theorem X14_ok : X14.Ok := ⟨Tryz.func14, tys_ok⟩
theorem TotalsOf_ct (l : List Bk) (ex : Bool) (hlen : l.length ≤ 1048576) (hr : ∀ x ∈ l, bkRng x) (hv : vBs l = true) : Ct Tryz.prog 14 [.ro 8 ex (l.map bkA)] (.tup [.agg [i64 (sW l), i64 (tH l), i64 (sT l)], i64 0]) [] := by
  refine Ct.intro X14 X14_ok rfl (by kernel_rfl) rfl rfl fun g hg => ?_
  repeat (refine Run.go rfl ?_)
  refine Run.cs rfl (validBooks_ct l ex hlen) rfl rfl ?_
  rw [hv]
  repeat (refine Run.go rfl ?_)
  refine Run.cond rfl (fun h => by simp at h) (fun h => ?_)
  repeat (refine Run.go rfl ?_)
  refine Run.cs rfl (totals_ct l ex hlen hr) rfl rfl ?_
  repeat (refine Run.go rfl ?_)
  exact Run.ret hg rfl rfl

noncomputable def X17 : Fx := ⟨Tryz.prog, tys, 17, Tryz.f17, [0]⟩
theorem X17_ok : X17.Ok := ⟨Tryz.func17, tys_ok⟩
theorem CompareBooks_ct (x y : Bk) : Ct Tryz.prog 17 [bkA x, bkA y] (i64 (uc x y)) [] := by
  refine Ct.intro X17 X17_ok rfl (by kernel_rfl) rfl rfl fun g hg => ?_
  repeat (refine Run.go rfl ?_)
  refine Run.cs rfl (compare_ct x y) rfl rfl ?_
  repeat (refine Run.go rfl ?_)
  exact Run.ret hg rfl rfl

theorem picks_all (ex : Bool) (C : List Int) (hC : C.length ≤ 1048576) (hb : ∀ x ∈ C, 0 ≤ x ∧ x ≤ 255) (k : Int) (hk : 0 < k ∧ k ≤ 1000000) : ∀ (m : Nat) (n s : Int), 0 ≤ n → n + 2 * m ≤ 999999000 → ∃ (l : List Int) (N S : Nat → Int), l.length = m ∧ (∀ x ∈ l, 0 ≤ x ∧ x < k) ∧ N 0 = n ∧ S 0 = s ∧
      (n ≤ N m ∧ N m ≤ n + 2 * (m : Nat)) ∧ ∀ j (hj : j < l.length), CtG Tryz.prog 20 [.bp lid 0, i64 k] (.box (srcL ex C (N j) (S j))) (i64 l[j]) (.box (srcL ex C (N (j + 1)) (S (j + 1)))) := by
  intro m
  induction m with
  | zero => intro n s h0 h1; exact ⟨[], fun _ => n, fun _ => s, rfl, by simp, rfl, rfl, by simp, by intro j hj; simp at hj⟩
  | succ m ih =>
    intro n s h0 h1
    obtain ⟨r, n', s', q1, hn', c⟩ := pick_ct ex C hC hb n s k (by omega) hk
    obtain ⟨l, N, S, hl, hal, hN, hS, hNm, hc⟩ := ih n' s' (by omega) (by omega)
    refine ⟨r :: l, fun j => match j with | 0 => n | j + 1 => N j, fun j => match j with | 0 => s | j + 1 => S j, by simp [hl], ?_, rfl, rfl, ?_, ?_⟩
    · intro b hb'
      rcases List.mem_cons.1 hb' with rfl | hb'
      · exact q1
      · exact hal b hb'
    · show n ≤ N m ∧ N m ≤ n + 2 * ((m + 1 : Nat) : Int)
      omega
    · intro j hj
      cases j with
      | zero => show CtG _ _ _ (.box (srcL ex C n s)) (i64 r) (.box (srcL ex C (N 0) (S 0))); rw [hN, hS]; exact c
      | succ j => exact hc j (by simpa using hj)

noncomputable def X5 : Fx := ⟨Tryz.prog, tys, 5, Tryz.f5, [0]⟩
theorem X5_ok : X5.Ok := ⟨Tryz.func5, tys_ok⟩
set_option maxHeartbeats 2000000 in
theorem P6Stops_ct (ex : Bool) (C : List Int) (hC : C.length ≤ 1048576) (hb : ∀ x ∈ C, 0 ≤ x ∧ x ≤ 255) :
    ∃ l : List Int, l.length ≤ 6 ∧ (∀ x ∈ l, 0 ≤ x ∧ x < 30) ∧ Ct Tryz.prog 5 [.ro 1 ex (C.map u8)] (.own 1 false (l.map i64)) [] := by
  obtain ⟨k, n1, s1, hk, hn1, c1⟩ := pick_ct ex C hC hb 0 0 7 (by omega) (by omega)
  obtain ⟨l, N, Q, hl, hal, hN, hQ, hNm, hc⟩ := picks_all ex C hC hb 30 (by omega) k.toNat n1 s1 (by omega) (by omega)
  have hkl : k = (l.length : Int) := by omega
  subst hkl
  refine ⟨l, by omega, hal, ?_⟩
  refine Ct.intro X5 X5_ok rfl (by kernel_rfl) rfl rfl fun g hg => ?_
  repeat (refine Run.go rfl ?_)
  refine Run.callN rfl rfl rfl rfl rfl rfl rfl from_calls rfl rfl ?_
  repeat (refine Run.go rfl ?_)
  refine Run.buildSlice [] rfl rfl rfl rfl rfl rfl rfl rfl rfl rfl rfl rfl rfl rfl ?_
  iterate 2 (refine Run.go rfl ?_)
  refine Run.loosen0 4 rfl ?_
  repeat (refine Run.go rfl ?_)
  refine Run.callG (7, 0) rfl rfl rfl rfl rfl rfl rfl rfl c1 rfl rfl ?_
  repeat (refine Run.go rfl ?_)
  refine Run.loop (fun j : Nat => ⟨[(3, .bp (7, 0) 0), (4, .own 1 false ((l.take j).map i64)), (5, i64 ((l.length - j : Nat) : Int))], [((7, 0), .box (srcL ex C (N j) (Q j)))]⟩) (fun j => j ≤ l.length) (fun j => l.length - j) 0 (by omega) ?_ ?_
  · rw [hN, hQ]
    exact St.Le.mk' ⟨rfl, rfl, rfl, trivial⟩ ⟨rfl, trivial⟩
  intro t ht IH
  repeat (refine Run.go rfl ?_)
  refine Run.cond rfl (fun h => ?_) (fun h => ?_)
  · have hlt : t < l.length := by
      have : (((l.length - t : Nat) : Int)) > 0 := of_decide_eq_true h
      omega
    repeat (refine Run.go rfl ?_)
    refine Run.callG (7, 0) rfl rfl rfl rfl rfl rfl rfl rfl (hc t hlt) rfl rfl ?_
    refine Run.buildSlice [i64 l[t]] rfl rfl rfl rfl rfl rfl rfl rfl rfl rfl rfl rfl rfl rfl ?_
    refine Run.appendo rfl rfl rfl rfl rfl rfl rfl rfl rfl rfl rfl rfl rfl rfl (by show (((l.take t).map i64).length + 1) * 8 ≤ 140737488355328; rw [List.length_map, List.length_take]; omega) (by simp [capMax]; omega) (by decide) rfl ?_
    repeat (refine Run.go rfl ?_)
    refine Run.of (IH (t + 1) (by omega) (by omega)) ⟨rfl, ?_, ?_, trivial⟩ ⟨rfl, trivial⟩
    · show AV.own _ _ _ = AV.own _ _ _
      rw [List.take_succ_eq_append_getElem hlt, List.map_append]
      rfl
    · show i64 _ = i64 _
      rw [wrap_i64 (by omega) (by omega)]
      congr 1
      omega
  have ht' : t = l.length := by
    have : ¬ (((l.length - t : Nat) : Int)) > 0 := of_decide_eq_false h
    omega
  subst ht'
  rw [List.take_length]
  repeat (refine Run.go rfl ?_)
  first | exact Run.ret hg rfl rfl | (refine Run.pack 2 rfl rfl (by simp) ?_; exact Run.ret hg rfl rfl)
end Go.Proofs.YtcfkdcjindhnjaaGreat
