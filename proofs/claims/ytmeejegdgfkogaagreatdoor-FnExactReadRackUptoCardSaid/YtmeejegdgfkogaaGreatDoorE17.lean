/- Contracts of the program's functions, and what follows from them. -/
import Derived.Test.YtmeejegdgfkogaaGreatDoorE16
set_option linter.unusedVariables false
set_option maxRecDepth 100000
set_option linter.unusedSimpArgs false
namespace Go.Proofs.YtmeejegdgfkogaaGreatDoor
open Go Go.Av

/-! Acts out of a text: the reference. -/

theorem rfS (l : List (List UInt8)) : AV.rfL (l.map str) = true := rfL_map (fun _ => rfl) l
theorem frzS (l : List (List UInt8)) : AV.frzL (l.map str) = l.map str := frzL_map (fun _ => rfl) l

noncomputable def X9 : Fx := ⟨Tryz.prog, tys, 9, Tryz.f9, [0, 1]⟩
theorem X9_ok : X9.Ok := ⟨Tryz.func9, tys_ok⟩
theorem l01Split_ct (s : List UInt8) (c : UInt8) (hlen : s.length ≤ 1048576) : Ct Tryz.prog 9 [str s, u8 (c.toNat : Int)] (.own 1 false ((spl c s).map str)) [] := by
  refine Ct.intro X9 X9_ok rfl (by kernel_rfl) rfl rfl fun g hg => ?_
  repeat (refine Run.go rfl ?_)
  refine Run.buildSlice [] rfl rfl rfl rfl rfl rfl rfl rfl rfl rfl rfl rfl rfl rfl ?_
  repeat (refine Run.go rfl ?_)
  refine Run.loosen0 5 rfl ?_
  refine Run.loop (fun q : Nat × Nat × List (List UInt8) => ⟨[(0, str s), (1, u8 (c.toNat : Int)), (5, .own 1 false (q.2.2.map str)), (6, i64 q.2.1), (7, i64 q.1)], []⟩)
    (fun q => q.1 ≤ s.length ∧ q.2.1 ≤ q.1 ∧ q.2.2.length ≤ q.2.1 ∧ spl c s = q.2.2 ++ spl c (s.drop q.2.1) ∧ c ∉ (s.take q.1).drop q.2.1) (fun q => s.length - q.1) (0, 0, [])
    ⟨by omega, by simp, by simp, by simp, by simp⟩ ?_ ?_
  · exact St.Le.mk' ⟨rfl, rfl, rfl, rfl, rfl, trivial⟩ trivial
  rintro ⟨j, b, out⟩ ⟨hj, hbj, hol, hsp, hno⟩ IH
  simp only at hj hbj hol hsp hno IH
  repeat (refine Run.go rfl ?_)
  refine Run.cond rfl (fun h => ?_) (fun h => ?_)
  · have hlt : j < s.length := by
      have h : decide ((j : Int) < ((⟨s.toArray⟩ : ByteArray).size : Nat)) = true := h
      rw [bsz] at h
      simpa using h
    have hdr : (s.take (j + 1)).drop b = (s.take j).drop b ++ [s[j]] := by
      rw [List.take_succ_eq_append_getElem hlt, List.drop_append_of_le_length (by rw [List.length_take]; omega)]
    repeat (refine Run.go rfl ?_)
    refine Run.val rfl rfl rfl (ValOk.sidx s s[j] rfl rfl rfl rfl rfl (by omega) (by simp [hlt])) rfl ?_
    repeat (refine Run.go rfl ?_)
    refine Run.cond rfl (fun h => ?_) (fun h => ?_)
    · have hc : s[j] = c := by
        have : (s[j].toNat : Int) = (c.toNat : Int) := by simpa using h
        exact UInt8.toNat_inj.1 (by omega)
      repeat (refine Run.go rfl ?_)
      refine Run.val rfl rfl rfl (ValOk.scut (s := (b : Int)) (h := (j : Int)) s ((s.take j).drop b) rfl rfl rfl rfl rfl rfl (by omega) (by omega) (by omega) (by simp only [Int.toNat_natCast])) rfl ?_
      repeat (refine Run.go rfl ?_)
      refine Run.buildSlice [str ((s.take j).drop b)] rfl rfl rfl rfl rfl rfl rfl rfl rfl rfl rfl rfl rfl rfl ?_
      refine Run.appendo rfl rfl rfl rfl rfl rfl rfl rfl rfl rfl rfl rfl rfl rfl (by show ((out.map str).length + 1) * 16 ≤ _; rw [List.length_map]; omega) (by simp [capMax]; omega) (by decide) rfl ?_
      repeat (refine Run.go rfl ?_)
      refine Run.of (IH (j + 1, j + 1, out ++ [(s.take j).drop b]) ⟨by simp only; omega, by simp only; omega, by simp only [List.length_append, List.length_cons, List.length_nil]; omega, ?_, ?_⟩ (by simp only; omega)) ⟨rfl, rfl, ?_, ?_, ?_, trivial⟩ trivial
      · show spl c s = (out ++ [(s.take j).drop b]) ++ spl c (s.drop (j + 1))
        have e : s.drop b = (s.take j).drop b ++ c :: s.drop (j + 1) := by
          have e1 : s.drop b = (s.take j ++ s.drop j).drop b := by rw [List.take_append_drop]
          rw [e1, List.drop_append_of_le_length (by rw [List.length_take]; omega), List.drop_eq_getElem_cons hlt, hc]
        rw [hsp, e, spl_hit hno, List.append_assoc]
        rfl
      · show c ∉ (s.take (j + 1)).drop (j + 1)
        rw [List.drop_eq_nil_of_le (by rw [List.length_take]; omega)]
        simp
      · show AV.own _ _ _ = AV.own _ _ _
        simp
      · show i64 _ = i64 _
        rw [wrap_i64 (by omega) (by omega)]
        rfl
      · show i64 _ = i64 _
        rw [wrap_i64 (by omega) (by omega)]
        rfl
    · have hc : s[j] ≠ c := by
        rintro rfl
        simp at h
      repeat (refine Run.go rfl ?_)
      refine Run.of (IH (j + 1, b, out) ⟨by simp only; omega, by simp only; omega, hol, hsp, ?_⟩ (by simp only; omega)) ⟨rfl, rfl, rfl, rfl, ?_, trivial⟩ trivial
      · show c ∉ (s.take (j + 1)).drop b
        rw [hdr]
        simp only [List.mem_append, List.mem_singleton, not_or]
        exact ⟨hno, fun e => hc e.symm⟩
      · show i64 _ = i64 _
        rw [wrap_i64 (by omega) (by omega)]
        rfl
  · have hj' : j = s.length := by
      have h : decide ((j : Int) < ((⟨s.toArray⟩ : ByteArray).size : Nat)) = false := h
      rw [bsz] at h
      simp at h
      omega
    subst hj'
    rw [List.take_length] at hno
    have hend : spl c s = out ++ [s.drop b] := by rw [hsp, spl_miss hno]
    repeat (refine Run.go rfl ?_)
    refine Run.val rfl rfl rfl (ValOk.scut (s := (b : Int)) (h := (s.length : Int)) s (s.drop b) rfl rfl rfl rfl rfl rfl (by omega) (by omega) (by omega) (by simp only [Int.toNat_natCast, List.take_length])) rfl ?_
    repeat (refine Run.go rfl ?_)
    refine Run.buildSlice [str (s.drop b)] rfl rfl rfl rfl rfl rfl rfl rfl rfl rfl rfl rfl rfl rfl ?_
    refine Run.appendo rfl rfl rfl rfl rfl rfl rfl rfl rfl rfl rfl rfl rfl rfl (by show ((out.map str).length + 1) * 16 ≤ _; rw [List.length_map]; omega) (by simp [capMax]; omega) (by decide) rfl ?_
    repeat (refine Run.go rfl ?_)
    refine Run.ret hg rfl ?_
    rw [hend]
    show AV.own _ _ _ = AV.own _ _ _
    simp
theorem l1n_none {s : List UInt8} (h : Lib.decFrom 0 s = none ∨ s = [] ∨ 9 < s.length ∨ (s.head? = some 48 ∧ 1 < s.length)) : l1n s = (0, false) := by
  unfold l1n
  cases hc : cn s with
  | none => rfl
  | some n =>
    have e := cn_some hc
    have hd := dec_dd n
    rw [← e] at hd
    show (if s.length ≤ 9 then _ else _) = _
    rcases h with h | h | h | ⟨h1, h2⟩
    · rw [h] at hd; cases hd
    · exact absurd (e ▸ h) (dd_ne n)
    · rw [if_neg (by omega)]
    · rw [e] at h1 h2
      obtain rfl := dd_head n h1
      rw [Lib.decDigits_one (by omega)] at h2
      simp at h2
theorem l1n_some {s : List UInt8} {n : Nat} (h : Lib.decFrom 0 s = some n) (h1 : s ≠ []) (h2 : s.length ≤ 9) (h3 : ¬ (s.head? = some 48 ∧ 1 < s.length)) : l1n s = ((n : Int), true) := by
  have e := dd_of_dec _ s n rfl h1 h h3
  unfold l1n
  rw [e, cn_dd]
  show (if (Lib.decDigits n).length ≤ 9 then _ else _) = _
  rw [← e, if_pos h2]

theorem str_eq (l m : List UInt8) : ((⟨l.toArray⟩ : ByteArray).toList == (⟨m.toArray⟩ : ByteArray).toList) = decide (l = m) := by
  rw [ByteArray.toList_mk, ByteArray.toList_mk]
  by_cases h : l = m
  · subst h; simp
  · simp [h]

def l1bad (s : List UInt8) : Bool := decide (s = [] ∨ 9 < s.length ∨ (s.head? = some 48 ∧ 1 < s.length))

noncomputable def X10 : Fx := ⟨Tryz.prog, tys, 10, Tryz.f10, [0]⟩
theorem X10_ok : X10.Ok := ⟨Tryz.func10, tys_ok⟩
theorem l01Number_ct (s : List UInt8) (hlen : s.length ≤ 1048576) : Ct Tryz.prog 10 [str s] (.tup [i64 (l1n s).1, bo (l1n s).2]) [] := by
  have hNo := fun h => l1n_none (s := s) h
  refine Ct.intro X10 X10_ok rfl (by kernel_rfl) rfl rfl fun g hg => ?_
  iterate 7 (refine Run.go rfl ?_)
  refine Run.region ⟨[(0, str s), (22, bo (l1bad s))], []⟩ ?_ fun _ hN => ?_
  rotate_left
  · have h5 : ∀ {v : Bool}, v = l1bad s → St.Le ⟨[(0, str s), (22, bo (l1bad s))], []⟩ ⟨[(0, str s), (22, bo v)], []⟩ := by
      rintro v rfl
      exact St.Le.mk' ⟨rfl, rfl, trivial⟩ trivial
    repeat (refine Run.go rfl ?_)
    refine Run.bool 8 rfl (fun h => ?_) (fun h => ?_)
    · have h : s = [] := by
        have h2 := (str_eq s []).symm.trans h
        simpa using h2
      have hb : l1bad s = true := by simp [l1bad, h]
      repeat (refine Run.go rfl ?_)
      refine Run.of hN ⟨rfl, ?_, trivial⟩ trivial
      rw [hb]
      rfl
    have hne : s ≠ [] := by
      rintro rfl
      exact absurd ((str_eq [] []).symm.trans h) (by simp)
    clear h
    repeat (refine Run.go rfl ?_)
    refine Run.bool 13 rfl (fun h => ?_) (fun h => ?_)
    · have h : 9 < s.length := by
        have h2 : decide ((9 : Int) < ((⟨s.toArray⟩ : ByteArray).size : Nat)) = true := h
        rw [bsz] at h2
        simp at h2
        omega
      have hb : l1bad s = true := by simp [l1bad, h]
      repeat (refine Run.go rfl ?_)
      refine Run.of hN ⟨rfl, ?_, trivial⟩ trivial
      rw [hb]
      rfl
    have h9 : s.length ≤ 9 := by
      have h2 : decide ((9 : Int) < ((⟨s.toArray⟩ : ByteArray).size : Nat)) = false := h
      rw [bsz] at h2
      simp at h2
      omega
    clear h
    have hpos : 0 < s.length := List.length_pos_iff.2 hne
    have hh0 : s.head? = some s[0] := by
      cases s with
      | nil => exact absurd rfl hne
      | cons _ _ => rfl
    have hbe : l1bad s = decide (s[0] = 48 ∧ 1 < s.length) := by
      have : ¬ 9 < s.length := by omega
      simp [l1bad, hne, this, hh0]
    repeat (refine Run.go rfl ?_)
    refine Run.val rfl rfl rfl (ValOk.sidx s s[0] rfl rfl rfl rfl rfl (by omega) (by simp [hpos])) rfl ?_
    repeat (refine Run.go rfl ?_)
    refine Run.bool 17 rfl (fun h => ?_) (fun h => ?_)
    · have h0 : s[0] = 48 := by
        have : (s[0].toNat : Int) = 48 := by simpa using h
        exact UInt8.toNat_inj.1 (by show s[0].toNat = 48; omega)
      have hb : l1bad s = decide ((1 : Int) < ((⟨s.toArray⟩ : ByteArray).size : Nat)) := by
        rw [hbe, bsz]
        simp only [h0, true_and]
        congr 1
        apply propext
        omega
      repeat (refine Run.go rfl ?_)
      refine Run.of hN ⟨rfl, ?_, trivial⟩ trivial
      rw [hb]
      rfl
    · have h0 : s[0] ≠ 48 := by
        intro e
        rw [e] at h
        simp at h
      have hb : l1bad s = false := by
        rw [hbe]
        simp [h0]
      repeat (refine Run.go rfl ?_)
      refine Run.of hN ⟨rfl, ?_, trivial⟩ trivial
      rw [hb]
      rfl
  repeat (refine Run.go rfl ?_)
  refine Run.cond rfl (fun h => ?_) (fun h => ?_)
  · have hr := hNo (.inr (of_decide_eq_true h))
    repeat (refine Run.go rfl ?_)
    refine Run.ret hg rfl ?_
    rw [hr]
    rfl
  have hbad := of_decide_eq_false h
  have hne : s ≠ [] := fun e => hbad (.inl e)
  have h9 : s.length ≤ 9 := by
    have : ¬ 9 < s.length := fun e => hbad (.inr (.inl e))
    omega
  have hz : ¬ (s.head? = some 48 ∧ 1 < s.length) := fun e => hbad (.inr (.inr e))
  clear h
  repeat (refine Run.go rfl ?_)
  refine Run.loop (fun q : Nat × Nat => ⟨[(0, str s), (4, i64 q.2), (5, i64 q.1)], []⟩) (fun q => q.1 ≤ s.length ∧ Lib.decFrom 0 (s.take q.1) = some q.2) (fun q => s.length - q.1) (0, 0) ⟨by simp, rfl⟩ ?_ ?_
  · exact St.Le.mk' ⟨rfl, rfl, rfl, trivial⟩ trivial
  rintro ⟨j, acc⟩ ⟨hj, hacc⟩ IH
  simp only at hj hacc IH
  have hb1 := Lib.decFrom_lt _ _ _ hacc
  have hb2 : 10 ^ (s.take j).length ≤ 10 ^ 9 := Nat.pow_le_pow_right (by omega) (by rw [List.length_take]; omega)
  have hb3 : acc < 1000000000 := by omega
  clear hb1 hb2
  repeat (refine Run.go rfl ?_)
  refine Run.cond rfl (fun h => ?_) (fun h => ?_)
  · have hlt : j < s.length := by
      have h : decide ((j : Int) < ((⟨s.toArray⟩ : ByteArray).size : Nat)) = true := h
      rw [bsz] at h
      simpa using h
    have hnone : (s[j].toNat < 48 ∨ 57 < s[j].toNat) → l1n s = (0, false) := by
      intro hd
      refine hNo (.inl ?_)
      cases hf : Lib.decFrom 0 s with
      | none => rfl
      | some n =>
        obtain ⟨d, hd2⟩ := Lib.digit_of_decFrom s 0 n hf j s[j] (by simp [hlt])
        have := dv_some hd2
        omega
    repeat (refine Run.go rfl ?_)
    refine Run.val rfl rfl rfl (ValOk.sidx s s[j] rfl rfl rfl rfl rfl (by omega) (by simp [hlt])) rfl ?_
    repeat (refine Run.go rfl ?_)
    refine Run.bool 33 rfl (fun h => ?_) (fun h => ?_)
    · have hr := hnone (.inl (by have : (s[j].toNat : Int) < 48 := of_decide_eq_true h; omega))
      repeat (refine Run.go rfl ?_)
      refine Run.cond rfl (fun _ => ?_) (fun h => by cases h)
      repeat (refine Run.go rfl ?_)
      refine Run.ret hg rfl ?_
      rw [hr]
      rfl
    have h48 : 48 ≤ s[j].toNat := by have : ¬ (s[j].toNat : Int) < 48 := of_decide_eq_false h; omega
    clear h
    repeat (refine Run.go rfl ?_)
    refine Run.val rfl rfl rfl (ValOk.sidx s s[j] rfl rfl rfl rfl rfl (by omega) (by simp [hlt])) rfl ?_
    repeat (refine Run.go rfl ?_)
    refine Run.cond rfl (fun h => ?_) (fun h => ?_)
    · have hr := hnone (.inr (by have : (57 : Int) < s[j].toNat := of_decide_eq_true h; omega))
      repeat (refine Run.go rfl ?_)
      refine Run.ret hg rfl ?_
      rw [hr]
      rfl
    have h57 : s[j].toNat ≤ 57 := by have : ¬ (57 : Int) < s[j].toNat := of_decide_eq_false h; omega
    clear h
    have hnext : Lib.decFrom 0 (s.take (j + 1)) = some (acc * 10 + (s[j].toNat - 48)) := by
      rw [List.take_succ_eq_append_getElem hlt, decFrom_app, hacc]
      show Lib.decFrom acc [s[j]] = _
      rw [Lib.decFrom, show Lib.digitVal s[j] = some (s[j].toNat - 48) by unfold Lib.digitVal; rw [if_pos ⟨h48, h57⟩]]
      rfl
    repeat (refine Run.go rfl ?_)
    refine Run.val rfl rfl rfl (ValOk.sidx s s[j] rfl rfl rfl rfl rfl (by omega) (by simp [hlt])) rfl ?_
    repeat (refine Run.go rfl ?_)
    refine Run.of (IH (j + 1, acc * 10 + (s[j].toNat - 48)) ⟨by simp only; omega, hnext⟩ (by simp only; omega)) ⟨rfl, ?_, ?_, trivial⟩ trivial
    · show i64 _ = i64 _
      have e1 : IntKind.u8.wrap ((s[j].toNat : Int) - 48) = ((s[j].toNat - 48 : Nat) : Int) := by rw [wrap_u8 (by omega) (by omega)]; omega
      have e2 : IntKind.i64.wrap (10 * (acc : Int)) = 10 * (acc : Int) := wrap_i64 (by omega) (by omega)
      have e3 : IntKind.i64.wrap ((s[j].toNat - 48 : Nat) : Int) = ((s[j].toNat - 48 : Nat) : Int) := wrap_i64 (by omega) (by omega)
      rw [e1, e3, show IntKind.i64.wrap (10 * ((j, acc).2 : Int)) = 10 * (acc : Int) from e2, wrap_i64 (by omega) (by omega)]
      show i64 _ = i64 _
      congr 2
      show (10 * (acc : Int) + _) = ((acc * 10 + (s[j].toNat - 48) : Nat) : Int)
      omega
    · show i64 _ = i64 _
      rw [wrap_i64 (by omega) (by omega)]
      rfl
  · have hj' : j = s.length := by
      have h : decide ((j : Int) < ((⟨s.toArray⟩ : ByteArray).size : Nat)) = false := h
      rw [bsz] at h
      simp at h
      omega
    subst hj'
    rw [List.take_length] at hacc
    have hr := l1n_some hacc hne h9 hz
    repeat (refine Run.go rfl ?_)
    refine Run.ret hg rfl ?_
    rw [hr]
    rfl
end Go.Proofs.YtmeejegdgfkogaaGreatDoor
