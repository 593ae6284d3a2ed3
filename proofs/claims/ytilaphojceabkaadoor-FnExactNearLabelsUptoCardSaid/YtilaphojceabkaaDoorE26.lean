/- Contracts of the program's functions, and what follows from them. -/
import Derived.Test.YtilaphojceabkaaDoorE25
set_option linter.unusedVariables false
set_option maxRecDepth 100000
set_option linter.unusedSimpArgs false
namespace Go.Proofs.YtilaphojceabkaaDoor
open Go Go.Av

/-! Lists of texts: alike, marked, held. -/

noncomputable def X42 : Fx := ⟨Tryd.prog, tys, 42, Tryd.f42, [0, 1]⟩
theorem X42_ok : X42.Ok := ⟨Tryd.func42, tys_ok⟩
theorem eqStringS_ct (l m : List (List UInt8)) (ex ex' : Bool) (hb : l.length ≤ 1048576) : Ct Tryd.prog 42 [.ro 1 ex (l.map str), .ro 1 ex' (m.map str)] (bo (decide (l = m))) [] := by
  refine Ct.intro X42 X42_ok rfl rfl rfl rfl fun g hg => ?_
  repeat (refine Run.go rfl ?_)
  refine Run.cond rfl (fun h => ?_) (fun h => ?_)
  · repeat (refine Run.go rfl ?_)
    refine Run.ret hg rfl ?_
    show bo _ = _
    congr 2
    simp at h
    symm
    simp
    rintro rfl
    exact h rfl
  · have hlen : l.length = m.length := by simp at h; omega
    repeat (refine Run.go rfl ?_)
    refine Run.loop (fun j : Nat => ⟨[(0, .ro 1 ex (l.map str)), (1, .ro 1 ex' (m.map str)), (5, i64 j)], []⟩) (fun j => j ≤ l.length ∧ l.take j = m.take j) (fun j => l.length - j) 0 ⟨by omega, rfl⟩ ?_ ?_
    · exact St.Le.mk' ⟨rfl, rfl, rfl, trivial⟩ trivial
    · rintro j ⟨hj, hjm⟩ IH
      repeat (refine Run.go rfl ?_)
      refine Run.cond rfl (fun h => ?_) (fun h => ?_)
      · have hlt : j < l.length := by simpa using h
        have hlt' : j < m.length := by omega
        repeat (refine Run.go rfl ?_)
        refine Run.draw (by kernel_rfl) (by decide +kernel) ?_
        repeat (refine Quiet.go rfl ?_)
        refine Quiet.val rfl rfl (ValOk.idx (str l[j]) rfl rfl rfl rfl rfl (by omega) (by simp [hlt])) rfl ?_
        repeat (refine Quiet.go rfl ?_)
        refine Quiet.val rfl rfl (ValOk.idx (str m[j]) rfl rfl rfl rfl rfl (by omega) (by simp [hlt'])) rfl ?_
        repeat (refine Quiet.go rfl ?_)
        refine Quiet.nil ?_
        repeat (refine Run.go rfl ?_)
        refine Run.cond rfl (fun h => ?_) (fun h => ?_)
        · repeat (refine Run.go rfl ?_)
          refine Run.ret hg rfl ?_
          have h : (!decide (l[j] = m[j])) = true := (str_neq l[j] m[j]).symm.trans h
          show bo false = bo (decide (l = m))
          rw [decide_eq_false]
          rintro rfl
          simp at h
        · have h : (!decide (l[j] = m[j])) = false := (str_neq l[j] m[j]).symm.trans h
          repeat (refine Run.go rfl ?_)
          refine Run.of (IH (j + 1) ⟨by omega, ?_⟩ (by omega)) ⟨rfl, rfl, ?_, trivial⟩ trivial
          · rw [List.take_succ_eq_append_getElem hlt, List.take_succ_eq_append_getElem hlt', hjm]
            simp at h
            rw [h]
          · show i64 _ = _
            rw [wrap_i64 (by omega) (by omega)]
            rfl
      · have hj' : j = l.length := by simp at h; omega
        repeat (refine Run.go rfl ?_)
        refine Run.ret hg rfl ?_
        show bo _ = _
        rw [List.take_of_length_le (by omega), List.take_of_length_le (by omega)] at hjm
        simp [hjm]

/-- A mark. -/
def dgs (n : Nat) : List UInt8 := if n = 0 then [] else Lib.decDigits n
theorem dgs_step {n : Nat} (h : 0 < n) : dgs n = dgs (n / 10) ++ [UInt8.ofNat (48 + n % 10)] := by
  unfold dgs
  rw [if_neg (by omega)]
  by_cases h1 : n < 10
  · rw [if_pos (by omega), Lib.decDigits_one h1]
    have : n % 10 = n := by omega
    rw [this]
    rfl
  · rw [if_neg (by omega), Lib.decDigits, dif_neg h1]
def mkT (k : Int) : List UInt8 := if k ≤ 0 then [109, 48] else [109] ++ dgs k.toNat
def mkTs (n : Nat) (k : Int) : List (List UInt8) := (List.range n).map fun i : Nat => mkT (k + (i : Int))

noncomputable def X76 : Fx := ⟨Tryd.prog, tys, 76, Tryd.f76, []⟩
theorem X76_ok : X76.Ok := ⟨Tryd.func76, tys_ok⟩
theorem markText_ct (k : Int) (hk : 0 ≤ k ∧ k ≤ 2199023255552) : Ct Tryd.prog 76 [i64 k] (str (mkT k)) [] := by
  obtain ⟨n, rfl⟩ := Int.eq_ofNat_of_zero_le hk.1
  refine Ct.intro X76 X76_ok rfl (by kernel_rfl) rfl rfl fun g hg => ?_
  repeat (refine Run.go rfl ?_)
  refine Run.cond rfl (fun h => ?_) (fun h => ?_)
  · have h : (n : Int) ≤ 0 := of_decide_eq_true h
    repeat (refine Run.go rfl ?_)
    refine Run.ret hg rfl ?_
    unfold mkT
    rw [if_pos h]
    rfl
  have h : ¬ (n : Int) ≤ 0 := of_decide_eq_false h
  have hm : mkT (n : Int) = [109] ++ dgs n := by
    unfold mkT
    rw [if_neg h]
    rfl
  have hdl : (dgs n).length ≤ 21 := by
    unfold dgs
    split
    · simp
    · exact dl_len n (by omega)
  repeat (refine Run.go rfl ?_)
  refine Run.loop (fun q : Nat × List UInt8 => ⟨[(0, i64 q.1), (3, str q.2)], []⟩) (fun q => dgs q.1 ++ q.2 = dgs n ∧ q.1 ≤ n) (fun q => q.1) (n, []) ⟨by simp, by simp⟩ ?_ ?_
  · exact St.Le.mk' ⟨rfl, rfl, trivial⟩ trivial
  rintro ⟨m, acc⟩ ⟨hacc, hmn⟩ IH
  simp only at hacc hmn IH
  repeat (refine Run.go rfl ?_)
  refine Run.cond rfl (fun h => ?_) (fun h => ?_)
  · have hpos : 0 < m := by
      have : (0 : Int) < m := of_decide_eq_true h
      omega
    have hst := dgs_step hpos
    have hal : acc.length ≤ 21 := by
      have := congrArg List.length hacc
      rw [List.length_append] at this
      omega
    have ee : IntKind.u8.wrap (IntKind.i64.wrap (48 + ((((m, acc) : Nat × List UInt8).1 : Nat) : Int).tmod 10)) = ((48 + m % 10 : Nat) : Int) := by
      show IntKind.u8.wrap (IntKind.i64.wrap (48 + (m : Int).tmod 10)) = _
      rw [Int.tmod_eq_emod_of_nonneg (by omega), wrap_i64 (by omega) (by omega), wrap_u8 (by omega) (by omega)]
      omega
    have e4 : ((((m, acc) : Nat × List UInt8).1 : Nat) : Int).tdiv 10 = ((m / 10 : Nat) : Int) := by
      show (m : Int).tdiv 10 = _
      rw [Int.tdiv_eq_ediv_of_nonneg (by omega)]
      omega
    repeat (refine Run.go rfl ?_)
    rw [ee]
    refine Run.buildSlice [u8 ((48 + m % 10 : Nat) : Int)] rfl rfl rfl rfl rfl rfl rfl rfl rfl rfl rfl rfl rfl rfl ?_
    refine Run.val rfl rfl rfl (ValOk.b2s (ex := true) [((48 + m % 10 : Nat) : Int)] rfl rfl rfl rfl rfl (.inl rfl)) rfl ?_
    repeat (refine Run.go rfl ?_)
    refine Run.val rfl rfl rfl (ValOk.scat (bys [((48 + m % 10 : Nat) : Int)]) acc rfl rfl rfl (by show 1 + acc.length ≤ _; omega)) rfl ?_
    repeat (refine Run.go rfl ?_)
    refine Run.of (IH (m / 10, UInt8.ofNat (48 + m % 10) :: acc) ⟨?_, by simp only; omega⟩ (by simp only; omega)) ⟨?_, ?_, trivial⟩ trivial
    · show dgs (m / 10) ++ UInt8.ofNat (48 + m % 10) :: acc = dgs n
      rw [← hacc, hst, List.append_assoc]
      rfl
    · show i64 _ = i64 _
      rw [e4, wrap_i64 (by omega) (by omega)]
    · show str _ = str _
      rfl
  have hm0 : m = 0 := by
    have : ¬ (0 : Int) < m := of_decide_eq_false h
    omega
  subst hm0
  have hfin : acc = dgs n := by simpa [dgs] using hacc
  repeat (refine Run.go rfl ?_)
  refine Run.val rfl rfl rfl (ValOk.scat [109] acc rfl rfl rfl (by rw [hfin]; simp only [List.length_cons, List.length_nil]; omega)) rfl ?_
  repeat (refine Run.go rfl ?_)
  refine Run.ret hg rfl ?_
  rw [hm, ← hfin]
  rfl

noncomputable def X43 : Fx := ⟨Tryd.prog, tys, 43, Tryd.f43, [0]⟩
theorem X43_ok : X43.Ok := ⟨Tryd.func43, tys_ok⟩
theorem markStringS_ct (l : List (List UInt8)) (k : Int) (ex : Bool) (hb : l.length ≤ 1048576) (hk : 0 ≤ k ∧ k ≤ 1099511627776) : Ct Tryd.prog 43 [.own 1 ex (l.map str), i64 k] (i64 (k + l.length)) [.own 1 ex ((mkTs l.length k).map str)] := by
  refine Ct.intro X43 X43_ok rfl (by kernel_rfl) rfl rfl fun g hg => ?_
  refine Run.unpack 0 rfl rfl ?_
  repeat (refine Run.go rfl ?_)
  refine Run.loop (fun j : Nat => ⟨[(0, .vec (0, 0) 0 l.length), (1, i64 (k + j)), (5, i64 j)], [((0, 0), .vec 1 ex ((mkTs j k).map str ++ (l.drop j).map str))]⟩) (fun j => j ≤ l.length) (fun j => l.length - j) 0 (by omega) ?_ ?_
  · refine St.Le.mk' ⟨?_, ?_, rfl, trivial⟩ ⟨?_, trivial⟩
    · show AV.vec _ _ (l.map str).length = _
      simp
    · show i64 k = _
      simp
    · show Ob.vec _ _ _ = _
      simp [mkTs]
  · intro j hj IH
    repeat (refine Run.go rfl ?_)
    refine Run.cond rfl (fun h => ?_) (fun h => ?_)
    · have hlt : j < l.length := by simpa using h
      repeat (refine Run.go rfl ?_)
      refine Run.cs rfl (markText_ct (k + j) (by omega)) rfl rfl ?_
      refine Run.val rfl rfl rfl (ValOk.idxv rfl rfl rfl rfl rfl rfl (by omega) (by simp; omega)) rfl ?_
      refine Run.storee (str l[j]) (str (mkT (k + j))) rfl rfl rfl rfl rfl rfl rfl ?_ rfl rfl rfl ?_
      · simp only [Nat.zero_add, Int.toNat_natCast]
        rw [List.getElem?_append_right (by simp [mkTs])]
        simp [mkTs, hlt]
      repeat (refine Run.go rfl ?_)
      refine Run.of (IH (j + 1) (by omega) (by omega)) ⟨rfl, ?_, ?_, trivial⟩ ⟨?_, trivial⟩
      · show i64 (IntKind.i64.wrap (k + j + 1)) = _
        rw [wrap_i64 (by omega) (by omega)]
        exact congrArg i64 (by omega)
      · show i64 _ = _
        rw [wrap_i64 (by omega) (by omega)]
        rfl
      · show Ob.vec _ _ _ = _
        congr 1
        simp only [Nat.zero_add, Int.toNat_natCast]
        rw [List.drop_eq_getElem_cons hlt, List.map_cons, List.set_append_right _ _ (by simp [mkTs])]
        simp [mkTs, List.range_succ]
    · have hj' : j = l.length := by simp at h; omega
      subst hj'
      repeat (refine Run.go rfl ?_)
      refine Run.pack 0 rfl rfl (by simp [mkTs]) ?_
      refine Run.reto hg rfl rfl rfl ?_ rfl rfl
      show AV.own _ _ _ = _
      simp

noncomputable def X44 : Fx := ⟨Tryd.prog, tys, 44, Tryd.f44, [0]⟩
theorem X44_ok : X44.Ok := ⟨Tryd.func44, tys_ok⟩
theorem heldStringS_ct (n : Nat) (k : Int) (ex : Bool) (hb : n ≤ 1048576) (hk : 0 ≤ k ∧ k ≤ 1099511627776) : Ct Tryd.prog 44 [.ro 1 ex ((mkTs n k).map str), i64 k] (i64 (k + (n : Nat))) [] := by
  have hn : (mkTs n k).length = n := by simp [mkTs]
  refine Ct.intro X44 X44_ok rfl (by kernel_rfl) rfl rfl fun g hg => ?_
  repeat (refine Run.go rfl ?_)
  refine Run.loop (fun j : Nat => ⟨[(0, .ro 1 ex ((mkTs n k).map str)), (1, i64 (k + j)), (5, i64 j)], []⟩) (fun j => j ≤ n) (fun j => n - j) 0 (by omega) ?_ ?_
  · refine St.Le.mk' ⟨rfl, ?_, rfl, trivial⟩ trivial
    show i64 k = _
    simp
  · intro j hj IH
    repeat (refine Run.go rfl ?_)
    refine Run.cond rfl (fun h => ?_) (fun h => ?_)
    · have hlt : j < n := by simp [hn] at h; omega
      repeat (refine Run.go rfl ?_)
      refine Run.draw (by kernel_rfl) (by decide +kernel) ?_
      repeat (refine Quiet.go rfl ?_)
      refine Quiet.val rfl rfl (ValOk.idx (str (mkT (k + j))) rfl rfl rfl rfl rfl (by omega) (by simp [mkTs, hlt])) rfl ?_
      repeat (refine Quiet.go rfl ?_)
      refine Quiet.cs rfl rfl rfl rfl rfl (markText_ct (k + j) (by omega)) rfl rfl ?_
      repeat (refine Quiet.go rfl ?_)
      refine Quiet.nil ?_
      repeat (refine Run.go rfl ?_)
      refine Run.cond rfl (fun h2 => by simp at h2) (fun h2 => ?_)
      repeat (refine Run.go rfl ?_)
      refine Run.of (IH (j + 1) (by omega) (by omega)) ⟨rfl, ?_, ?_, trivial⟩ trivial
      · show i64 (IntKind.i64.wrap (k + j + 1)) = _
        rw [wrap_i64 (by omega) (by omega)]
        exact congrArg i64 (by omega)
      · show i64 _ = _
        rw [wrap_i64 (by omega) (by omega)]
        rfl
    · have hj' : j = n := by simp [hn] at h; omega
      subst hj'
      repeat (refine Run.go rfl ?_)
      exact Run.ret hg rfl rfl


end Go.Proofs.YtilaphojceabkaaDoor
