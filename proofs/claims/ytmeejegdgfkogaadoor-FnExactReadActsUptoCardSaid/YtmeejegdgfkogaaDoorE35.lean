/- Contracts of the program's functions, and what follows from them. -/
import Derived.Test.YtmeejegdgfkogaaDoorE34
set_option linter.unusedVariables false
set_option maxRecDepth 100000
set_option linter.unusedSimpArgs false
namespace Go.Proofs.YtmeejegdgfkogaaDoor
open Go Go.Av

/-! Acts out of a text of lines: the reference, the program, the law. -/

def mkA (k : Int) : Ac := ⟨IntKind.i8.wrap k, IntKind.i8.wrap (k + 1), IntKind.i8.wrap (k + 2)⟩
def mkAs (n : Nat) (k : Int) : List Ac := (List.range n).map fun i : Nat => mkA (k + 3 * (i : Int))
theorem mkAs_len (n : Nat) (k : Int) : (mkAs n k).length = n := by simp [mkAs]
theorem mkAs_step (n : Nat) (k : Int) : mkAs (n + 1) k = mkAs n k ++ [mkA (k + 3 * (n : Int))] := by simp [mkAs, List.range_succ]

noncomputable def X7 : Fx := ⟨Tryd.prog, tys, 7, Tryd.f7, [0]⟩
theorem X7_ok : X7.Ok := ⟨Tryd.func7, tys_ok⟩
theorem markActS_ct (l : List Ac) (k : Int) (ex : Bool) (hb : l.length ≤ 1048576) (hk : 0 ≤ k ∧ k ≤ 1099511627776) :
    Ct Tryd.prog 7 [.own 3 ex (l.map acA), i64 k] (i64 (k + 3 * (l.length : Nat))) [.own 3 ex ((mkAs l.length k).map acA)] := by
  refine Ct.intro X7 X7_ok rfl rfl rfl rfl fun g hg => ?_
  refine Run.unpack 0 rfl rfl ?_
  repeat (refine Run.go rfl ?_)
  refine Run.loop (fun j : Nat => ⟨[(0, .vec (0, 0) 0 l.length), (1, i64 (k + 3 * (j : Nat))), (5, i64 j)], [((0, 0), .vec 3 ex ((mkAs j k).map acA ++ (l.drop j).map acA))]⟩) (fun j => j ≤ l.length) (fun j => l.length - j) 0 (by omega) ?_ ?_
  · refine St.Le.mk' ⟨?_, ?_, rfl, trivial⟩ ⟨?_, trivial⟩
    · show AV.vec _ _ (l.map acA).length = _
      simp
    · show i64 k = _
      simp
    · show Ob.vec _ _ _ = _
      simp [mkAs]
  · intro j hj IH
    repeat (refine Run.go rfl ?_)
    refine Run.cond rfl (fun h => ?_) (fun h => ?_)
    · have hlt : j < l.length := by simpa using h
      have hat : ∀ x : AV, ((mkAs j k).map acA ++ x :: (l.drop (j + 1)).map acA)[j]? = some x := by
        intro x
        rw [List.getElem?_append_right (by simp [mkAs_len])]
        simp [mkAs_len]
      have hset : ∀ x y : AV, ((mkAs j k).map acA ++ x :: (l.drop (j + 1)).map acA).set j y = (mkAs j k).map acA ++ y :: (l.drop (j + 1)).map acA := by
        intro x y
        rw [List.set_append_right _ _ (by simp [mkAs_len])]
        simp [mkAs_len]
      rw [List.drop_eq_getElem_cons hlt, List.map_cons]
      have hm : 0 + ((j : Int)).toNat = j := by simp
      have w1 : IntKind.i64.wrap (k + 3 * (j : Nat) + 1) = k + 3 * (j : Nat) + 1 := wrap_i64 (by omega) (by omega)
      have w2 : IntKind.i64.wrap (k + 3 * (j : Nat) + 1 + 1) = k + 3 * (j : Nat) + 2 := by rw [wrap_i64 (by omega) (by omega)]; omega
      have w3 : IntKind.i64.wrap (k + 3 * (j : Nat) + 2 + 1) = k + 3 * (j : Nat) + 3 := by rw [wrap_i64 (by omega) (by omega)]; omega
      repeat (refine Run.go rfl ?_)
      refine Run.val rfl rfl rfl (ValOk.idxv rfl rfl rfl rfl rfl rfl (by omega) (by omega)) rfl ?_
      rw [hm]
      repeat (refine Run.go rfl ?_)
      refine Run.storee (acA l[j]) _ rfl rfl rfl rfl rfl rfl rfl (hat _) rfl rfl rfl ?_
      rw [hset]
      repeat (refine Run.go rfl ?_)
      refine Run.val rfl rfl rfl (ValOk.idxv rfl rfl rfl rfl rfl rfl (by omega) (by omega)) rfl ?_
      rw [hm]
      repeat (refine Run.go rfl ?_)
      refine Run.storee _ _ rfl rfl rfl rfl rfl rfl rfl (hat _) rfl rfl rfl ?_
      rw [hset]
      repeat (refine Run.go rfl ?_)
      refine Run.val rfl rfl rfl (ValOk.idxv rfl rfl rfl rfl rfl rfl (by omega) (by omega)) rfl ?_
      rw [hm]
      repeat (refine Run.go rfl ?_)
      refine Run.storee _ _ rfl rfl rfl rfl rfl rfl rfl (hat _) rfl rfl rfl ?_
      rw [hset]
      repeat (refine Run.go rfl ?_)
      rw [w1, w2, w3]
      refine Run.of (IH (j + 1) (by omega) (by omega)) ⟨rfl, ?_, ?_, trivial⟩ ⟨?_, trivial⟩
      · show i64 (k + 3 * (j : Nat) + 3) = i64 _
        exact congrArg i64 (by omega)
      · show i64 _ = _
        rw [wrap_i64 (by omega) (by omega)]
        rfl
      · rw [mkAs_step, List.map_append, List.append_assoc]
        rfl
    · have hj' : j = l.length := by simp at h; omega
      subst hj'
      rw [List.drop_length]
      repeat (refine Run.go rfl ?_)
      refine Run.pack 0 rfl rfl (by simp [mkAs_len]) ?_
      refine Run.reto hg rfl rfl rfl ?_ rfl rfl
      show AV.own _ _ _ = _
      simp
theorem mkAs_get {n j : Nat} {k : Int} (h : j < n) : (mkAs n k)[j]? = some (mkA (k + 3 * (j : Int))) := by simp [mkAs, h]

noncomputable def X8 : Fx := ⟨Tryd.prog, tys, 8, Tryd.f8, [0]⟩
theorem X8_ok : X8.Ok := ⟨Tryd.func8, tys_ok⟩
theorem heldActS_ct (n : Nat) (k : Int) (ex : Bool) (hb : n ≤ 1048576) (hk : 0 ≤ k ∧ k ≤ 1099511627776) : Ct Tryd.prog 8 [.ro 3 ex ((mkAs n k).map acA), i64 k] (i64 (k + 3 * (n : Nat))) [] := by
  have hn := mkAs_len n k
  refine Ct.intro X8 X8_ok rfl (by kernel_rfl) rfl rfl fun g hg => ?_
  repeat (refine Run.go rfl ?_)
  refine Run.loop (fun j : Nat => ⟨[(0, .ro 3 ex ((mkAs n k).map acA)), (1, i64 (k + 3 * (j : Int))), (5, i64 j)], []⟩) (fun j => j ≤ n) (fun j => n - j) 0 (by omega) ?_ ?_
  · refine St.Le.mk' ⟨rfl, ?_, rfl, trivial⟩ trivial
    show i64 k = _
    simp
  · intro j hj IH
    repeat (refine Run.go rfl ?_)
    refine Run.cond rfl (fun h => ?_) (fun h => ?_)
    · have hlt : j < n := by simp [hn] at h; omega
      obtain ⟨K, hK⟩ : ∃ K : Int, K = k + 3 * (j : Int) := ⟨_, rfl⟩
      have hat : ((mkAs n k).map acA)[((j : Int)).toNat]? = some (acA (mkA K)) := by
        rw [Int.toNat_natCast, List.getElem?_map, mkAs_get hlt, ← hK]
        rfl
      rw [← hK]
      have w1 : IntKind.i64.wrap (K + 1) = K + 1 := wrap_i64 (by omega) (by omega)
      have w2 : IntKind.i64.wrap (K + 1 + 1) = K + 2 := by rw [wrap_i64 (by omega) (by omega)]; omega
      have w3 : IntKind.i64.wrap (K + 2 + 1) = K + 3 := by rw [wrap_i64 (by omega) (by omega)]; omega
      repeat (refine Run.go rfl ?_)
      refine Run.val rfl rfl rfl (ValOk.idx _ rfl rfl rfl rfl rfl (by omega) hat) rfl ?_
      repeat (refine Run.go rfl ?_)
      refine Run.cond rfl (fun h2 => by simp [mkA] at h2) (fun h2 => ?_)
      repeat (refine Run.go rfl ?_)
      rw [w1]
      repeat (refine Run.go rfl ?_)
      refine Run.val rfl rfl rfl (ValOk.idx _ rfl rfl rfl rfl rfl (by omega) hat) rfl ?_
      repeat (refine Run.go rfl ?_)
      refine Run.cond rfl (fun h2 => by simp [mkA] at h2) (fun h2 => ?_)
      repeat (refine Run.go rfl ?_)
      rw [w2]
      repeat (refine Run.go rfl ?_)
      refine Run.val rfl rfl rfl (ValOk.idx _ rfl rfl rfl rfl rfl (by omega) hat) rfl ?_
      repeat (refine Run.go rfl ?_)
      refine Run.cond rfl (fun h2 => by simp [mkA] at h2) (fun h2 => ?_)
      repeat (refine Run.go rfl ?_)
      rw [w3]
      refine Run.of (IH (j + 1) (by omega) (by omega)) ⟨rfl, ?_, ?_, trivial⟩ trivial
      · show i64 (K + 3) = i64 _
        exact congrArg i64 (by omega)
      · show i64 _ = _
        rw [wrap_i64 (by omega) (by omega)]
        rfl
    · have hj' : j = n := by simp [hn] at h; omega
      subst hj'
      repeat (refine Run.go rfl ?_)
      exact Run.ret hg rfl rfl

/-- What the reference reads. -/
def rsA (s : List UInt8) : List Ac × Int := if (rdOk s 200 && (lines s).all fun l => (raS l).2) = true then ((lines s).map fun l => (raS l).1, 0) else ([], 5)

theorem lines_facts (s : List UInt8) : ∃ w, spl 10 s = lines s ++ [w] ∧ decide (w = []) = ended s ∧ s.count 10 = (lines s).length := by
  have hc := count_spl s _ (Nat.le_refl _)
  cases he : ended s with
  | true =>
    obtain ⟨ls, h1, h2⟩ := spl_lnE _ s (Nat.le_refl _) he
    have hl : lines s = ls := by rw [lines, h1]; simp
    refine ⟨[], by rw [hl, h1], rfl, ?_⟩
    rw [h1, List.length_append, List.length_singleton] at hc
    rw [hl]; omega
  | false =>
    obtain ⟨ls, w, h1, h2⟩ := spl_last _ s (Nat.le_refl _) he
    have hl : lines s = ls := by rw [lines, h1]; simp
    refine ⟨w, by rw [hl, h1], decide_eq_false h2, ?_⟩
    rw [h1, List.length_append, List.length_singleton] at hc
    rw [hl]; omega

theorem rsA_eq (s : List UInt8) : rsA s = ((rdLA s).1, if (rdLA s).2 then 0 else 5) := by
  have hok : (lines s).all okA = (lines s).all fun l => (raS l).2 := by
    congr 1; funext l; exact (raS_raA l).1
  rw [rsA, rdLA, ← hok]
  split
  · rename_i h
    simp only [if_true, Prod.mk.injEq, and_true]
    refine List.map_congr_left fun l hl => ?_
    rw [Bool.and_eq_true, List.all_eq_true] at h
    have := h.2 l hl
    rw [okA, (raS_raA l).1] at this
    exact ((raS_raA l).2 this).symm
  · simp

theorem rsA_len {s : List UInt8} : (rsA s).1.length ≤ 200 := by
  obtain ⟨w, h1, h2, h3⟩ := lines_facts s
  rw [rsA]
  split
  · rename_i h
    rw [Bool.and_eq_true, rdOk, Bool.and_eq_true, decide_eq_true_eq] at h
    simp only [List.length_map]
    omega
  · simp

noncomputable def X4 : Fx := ⟨Tryd.prog, tys, 4, Tryd.f4, [0]⟩
theorem X4_ok : X4.Ok := ⟨Tryd.func4, tys_ok⟩
theorem specReadActs_ct (s : List UInt8) (hlen : s.length ≤ 1048576) : Ct Tryd.prog 4 [str s] (.tup [.own 3 false ((rsA s).1.map acA), i64 (rsA s).2]) [] := by
  obtain ⟨w, hW, hw, hc⟩ := lines_facts s
  have hsplit := l01Split_ct s 10 hlen
  have hwl := fun u (h : u ∈ spl 10 s) => spl_wlen h
  have hWlen := spl_len 10 s
  rw [hW] at hsplit hwl hWlen
  rw [List.length_append, List.length_singleton] at hWlen
  have hok : rdOk s 200 = (decide (w = []) && decide ((lines s).length ≤ 200)) := by rw [rdOk, hw, hc]
  have hR : rsA s = if (rdOk s 200 && (lines s).all fun l => (raS l).2) = true then ((lines s).map fun l => (raS l).1, 0) else ([], 5) := rfl
  generalize lines s = ls at *
  generalize rdOk s 200 = R at hok hR
  have hat : ∀ (j : Nat) (u : List UInt8), ls[j]? = some u → ((ls ++ [w]).map str)[((j : Int)).toNat]? = some (str u) := fun j u hu => by
    rw [Int.toNat_natCast, List.getElem?_map, List.getElem?_append_left (List.getElem?_eq_some_iff.1 hu).1, hu]; rfl
  have hatw : ((ls ++ [w]).map str)[(((ls.length : Nat) : Int)).toNat]? = some (str w) := by
    rw [Int.toNat_natCast, List.getElem?_map]; simp
  have hlm : ((ls ++ [w]).map str).length = ls.length + 1 := by simp
  refine Ct.intro X4 X4_ok rfl (by kernel_rfl) rfl rfl fun g hg => ?_
  repeat (refine Run.go rfl ?_)
  refine Run.cs rfl hsplit rfl (rfS _) ?_
  iterate 3 (refine Run.go rfl ?_)
  refine Run.freeze 4 (v' := .ro 1 false ((ls ++ [w]).map str)) rfl rfl (by show AV.ro 1 false (AV.frzL _) = _; rw [frzS]) ?_
  repeat (refine Run.go rfl ?_)
  refine Run.buildSlice [] rfl rfl rfl rfl rfl rfl rfl rfl rfl rfl rfl rfl rfl rfl ?_
  iterate 2 (refine Run.go rfl ?_)
  refine Run.loosen0 6 rfl ?_
  iterate 2 (refine Run.go rfl ?_)
  refine Run.region ⟨[(4, .ro 1 false ((ls ++ [w]).map str)), (5, i64 ls.length), (6, .own 3 false []), (24, bo (!R))], []⟩ ?_ fun k' hN => ?_
  rotate_left
  · have wn : IntKind.i64.wrap ((((ls ++ [w]).map str).length : Nat) - (1 : Int)) = (ls.length : Int) := by rw [hlm, wrap_i64 (by omega) (by omega)]; omega
    have e5 : i64 (IntKind.i64.wrap ((((ls ++ [w]).map str).length : Nat) - (1 : Int))) = i64 (ls.length : Int) := by rw [wn]
    have fin : ∀ {v : Bool}, v = (!R) → bo v = bo (!R) := fun e => by rw [e]
    have hne : ∀ b, (!((⟨w.toArray⟩ : ByteArray).toList == (⟨([] : List UInt8).toArray⟩ : ByteArray).toList)) = b → decide (w = []) = !b := fun b hb => by
      rw [str_eq] at hb
      rw [← hb, Bool.not_not]
    repeat (refine Run.go rfl ?_)
    refine Run.val rfl rfl rfl (ValOk.idx (str w) rfl rfl rfl rfl rfl (by rw [wn]; omega) (by rw [wn]; exact hatw)) rfl ?_
    repeat (refine Run.go rfl ?_)
    refine Run.bool 21 rfl (fun h => ?_) (fun h => ?_)
    · have hs0 := hne true h
      rw [hs0] at hok
      repeat (refine Run.go rfl ?_)
      exact Run.of hN ⟨rfl, e5, rfl, fin (v := true) (by rw [hok]; rfl), trivial⟩ trivial
    · have hs0 := hne false h
      rw [hs0, Bool.not_false, Bool.true_and] at hok
      repeat (refine Run.go rfl ?_)
      refine Run.of hN ⟨rfl, e5, rfl, fin (v := decide (IntKind.i64.wrap ((((ls ++ [w]).map str).length : Nat) - (1 : Int)) > 200)) ?_, trivial⟩ trivial
      rw [hok, ← decide_not, wn]
      refine decide_eq_decide.2 ?_
      omega
  refine Run.cond rfl (fun h => ?_) (fun h => ?_)
  · have h : R = false := by simpa using h
    rw [h] at hR
    have hR : rsA s = ([], 5) := hR
    rw [hR] at hg
    repeat (refine Run.go rfl ?_)
    refine Run.buildSlice [] rfl rfl rfl rfl rfl rfl rfl rfl rfl rfl rfl rfl rfl rfl ?_
    iterate 2 (refine Run.go rfl ?_)
    refine Run.loosen0 2 rfl ?_
    repeat (refine Run.go rfl ?_)
    exact Run.ret hg rfl rfl
  have h : R = true := by simpa using h
  rw [h, Bool.true_and] at hR
  rw [h] at hok
  have hl200 : ls.length ≤ 200 := by
    have := hok.symm
    rw [Bool.and_eq_true, decide_eq_true_eq, decide_eq_true_eq] at this
    exact this.2
  repeat (refine Run.go rfl ?_)
  refine Run.loop (fun j : Nat => ⟨[(4, .ro 1 false ((ls ++ [w]).map str)), (5, i64 ls.length), (6, .own 3 false (((ls.take j).map fun l => (raS l).1).map acA)), (7, i64 j)], []⟩)
    (fun j => j ≤ ls.length ∧ ((ls.take j).all fun l => (raS l).2) = true) (fun j => ls.length - j) 0 ⟨by omega, by simp⟩ ?_ ?_
  · exact St.Le.mk' ⟨rfl, rfl, rfl, rfl, trivial⟩ trivial
  rintro j ⟨hj, hall⟩ IH
  repeat (refine Run.go rfl ?_)
  refine Run.cond rfl (fun h => ?_) (fun h => ?_)
  · have hlt : j < ls.length := by simpa using h
    clear h
    have hx : ls[j]? = some ls[j] := List.getElem?_eq_getElem hlt
    have hm : ls[j] ∈ ls := List.getElem_mem hlt
    have hst1 : (ls.take (j + 1)).map (fun l => (raS l).1) = (ls.take j).map (fun l => (raS l).1) ++ [(raS ls[j]).1] := by
      rw [List.take_add_one, hx, List.map_append]; rfl
    have hst2 : ((ls.take (j + 1)).all fun l => (raS l).2) = (raS ls[j]).2 := by
      rw [List.take_add_one, hx, List.all_append, hall]; simp
    have hbad : (raS ls[j]).2 = false → (ls.all fun l => (raS l).2) = false := fun h => List.all_eq_false.2 ⟨_, hm, by rw [h]; simp⟩
    have hr := l06Read_ct ls[j] (Nat.le_trans (hwl _ (by simp [hm])) hlen)
    have hatj := hat j _ hx
    have hlenY : ((ls.take j).map (fun l => (raS l).1)).length ≤ 200 := by rw [List.length_map, List.length_take]; omega
    generalize raS ls[j] = ra at hr hst1 hst2 hbad
    generalize ls[j] = lj at hr hatj
    generalize hY : (ls.take j).map (fun l => (raS l).1) = Ys at hst1 hlenY
    repeat (refine Run.go rfl ?_)
    refine Run.val rfl rfl rfl (ValOk.idx (str lj) rfl rfl rfl rfl rfl (by omega) hatj) rfl ?_
    repeat (refine Run.go rfl ?_)
    refine Run.cs rfl hr rfl rfl ?_
    repeat (refine Run.go rfl ?_)
    refine Run.cond rfl (fun h => ?_) (fun h => ?_)
    · have h : ra.2 = false := by simpa using h
      have hR : rsA s = ([], 5) := by rw [hR, hbad h]; rfl
      rw [hR] at hg
      repeat (refine Run.go rfl ?_)
      refine Run.buildSlice [] rfl rfl rfl rfl rfl rfl rfl rfl rfl rfl rfl rfl rfl rfl ?_
      iterate 2 (refine Run.go rfl ?_)
      refine Run.loosen0 2 rfl ?_
      repeat (refine Run.go rfl ?_)
      exact Run.ret hg rfl rfl
    · have h : ra.2 = true := by simpa using h
      repeat (refine Run.go rfl ?_)
      refine Run.buildSlice [acA ra.1] rfl rfl rfl rfl rfl rfl rfl rfl rfl rfl rfl rfl rfl rfl ?_
      refine Run.appendo rfl rfl rfl rfl rfl rfl rfl rfl rfl rfl rfl rfl rfl rfl (by show ((Ys.map acA).length + 1) * 3 ≤ 140737488355328; rw [List.length_map]; omega) (by simp [capMax]; omega) (by decide) rfl ?_
      repeat (refine Run.go rfl ?_)
      refine Run.of (IH (j + 1) ⟨by omega, by rw [hst2]; exact h⟩ (by omega)) ⟨rfl, rfl, ?_, ?_, trivial⟩ trivial
      · show AV.own _ _ _ = AV.own _ _ _
        rw [hst1]
        simp
      · show i64 _ = i64 _
        rw [wrap_i64 (by omega) (by omega)]
        rfl
  · have hj' : j = ls.length := by simp at h; omega
    subst hj'
    rw [List.take_length] at hall
    rw [if_pos hall] at hR
    rw [hR] at hg
    rw [List.take_length]
    repeat (refine Run.go rfl ?_)
    refine Run.pack 2 rfl rfl rfl ?_
    exact Run.ret hg rfl rfl

noncomputable def X5 : Fx := ⟨Tryd.prog, tys, 5, Tryd.f5, [0]⟩
theorem X5_ok : X5.Ok := ⟨Tryd.func5, tys_ok⟩
theorem implReadActs_ct (s : List UInt8) (hlen : s.length ≤ 1048576) : CtA ambA Tryd.prog 5 [str s] (.tup [.own 3 false ((rsA s).1.map acA), i64 (rsA s).2]) [] := by
  have hr := readLinesAct_ct s hlen
  have hR := rsA_eq s
  have he : (rdLA s).2 = false → (rdLA s).1 = [] := by
    rw [rdLA]; split
    · intro h; simp at h
    · intro _; rfl
  generalize rdLA s = R at hr hR he
  obtain ⟨l, ok⟩ := R
  simp only at hr hR he
  rw [hR]
  refine CtA.intro ambA X5 X5_ok rfl (by kernel_rfl) rfl rfl fun g hA hg => ?_
  repeat (refine Run.go rfl ?_)
  refine Run.csA rfl (hr.at hA) rfl (by simp only [AV.rf, AV.rfL, rfA]; rfl) ?_
  repeat (refine Run.go rfl ?_)
  refine Run.cond rfl (fun h => ?_) (fun h => ?_)
  · have h : ok = false := by simpa using h
    subst h
    rw [he rfl] at hg
    repeat (refine Run.go rfl ?_)
    refine Run.nilSlot 2 3 false rfl ?_
    exact Run.ret hg rfl rfl
  · have h : ok = true := by simpa using h
    subst h
    repeat (refine Run.go rfl ?_)
    refine Run.pack 2 rfl rfl rfl ?_
    exact Run.ret hg rfl rfl

noncomputable def X3 : Fx := ⟨Tryd.prog, tys, 3, Tryd.f3, [0]⟩
theorem X3_ok : X3.Ok := ⟨Tryd.func3, tys_ok⟩
theorem lawReadActs_ct (s : List UInt8) : CtA ambA Tryd.prog 3 [str s] (bo true) [] := by
  refine CtA.intro ambA X3 X3_ok rfl (by kernel_rfl) rfl rfl fun g hA hg => ?_
  repeat (refine Run.go rfl ?_)
  refine Run.cond rfl (fun h => ?_) (fun h => ?_)
  · repeat (refine Run.go rfl ?_)
    exact Run.ret hg rfl rfl
  have hlen : s.length ≤ 1048576 := by
    have h2 : decide ((1048576 : Int) < ((⟨s.toArray⟩ : ByteArray).size : Nat)) = false := h
    rw [bsz] at h2
    simp at h2
    omega
  have hS := specReadActs_ct s hlen
  have hI := implReadActs_ct s hlen
  have hR := rsA_len (s := s)
  generalize rsA s = R at hS hI hR
  obtain ⟨l, c⟩ := R
  simp only at hS hI hR
  have hl2 : l.length ≤ 1048576 := by omega
  repeat (refine Run.go rfl ?_)
  refine Run.cs rfl hS rfl (by simp only [AV.rf, AV.rfL, rfA]; rfl) ?_
  repeat (refine Run.go rfl ?_)
  refine Run.freeze (v' := .ro 3 false (l.map acA)) 3 rfl rfl (by show AV.ro _ _ (AV.frzL _) = _; rw [frzA]) ?_
  refine Run.csA rfl (hI.at hA) rfl (by simp only [AV.rf, AV.rfL, rfA]; rfl) ?_
  repeat (refine Run.go rfl ?_)
  refine Run.cs rfl (eqActS_ct l l false false hl2) (by rw [frzA, decide_eq_true (by simp)]; rfl) rfl ?_
  rw [decide_eq_true rfl]
  repeat (refine Run.go rfl ?_)
  refine Run.cond rfl (fun h => by simp at h) (fun h => ?_)
  repeat (refine Run.go rfl ?_)
  refine Run.callo (5, 0) none rfl rfl rfl rfl rfl rfl rfl rfl rfl rfl (markActS_ct l 1 false hl2 (by omega)) rfl (rfA _) rfl ?_
  repeat (refine Run.go rfl ?_)
  refine Run.cs rfl (heldActS_ct l.length 1 false hl2 (by omega)) (by rw [frzA, decide_eq_true (by simp [mkAs])]; rfl) rfl ?_
  repeat (refine Run.go rfl ?_)
  refine Run.cond rfl (fun h => by simp at h; omega) (fun h => ?_)
  repeat (refine Run.go rfl ?_)
  refine Run.cond rfl (fun h => by simp at h) (fun h => ?_)
  repeat (refine Run.go rfl ?_)
  refine Run.csA rfl (hI.at hA) rfl (by simp only [AV.rf, AV.rfL, rfA]; rfl) ?_
  repeat (refine Run.go rfl ?_)
  refine Run.cs rfl (eqActS_ct l l false false hl2) (by rw [frzA, decide_eq_true (by simp)]; rfl) rfl ?_
  rw [decide_eq_true rfl]
  repeat (refine Run.go rfl ?_)
  refine Run.cond rfl (fun h => by simp at h) (fun h => ?_)
  repeat (refine Run.go rfl ?_)
  refine Run.cs rfl (heldActS_ct l.length 1 false hl2 (by omega)) (by rw [frzA, decide_eq_true (by simp [mkAs])]; rfl) rfl ?_
  repeat (refine Run.go rfl ?_)
  refine Run.cond rfl (fun h => by simp at h; omega) (fun h => ?_)
  repeat (refine Run.go rfl ?_)
  refine Run.cond rfl (fun h => by simp at h) (fun h => ?_)
  repeat (refine Run.go rfl ?_)
  exact Run.ret hg rfl rfl
end Go.Proofs.YtmeejegdgfkogaaDoor
