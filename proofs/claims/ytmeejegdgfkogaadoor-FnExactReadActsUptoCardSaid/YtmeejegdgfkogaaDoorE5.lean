/- Contracts of the program's functions, and what follows from them. -/
import Derived.Test.YtmeejegdgfkogaaDoorE4
import Derived.Test.YtmeejegdgfkogaaDoorMD
set_option linter.unusedVariables false
set_option maxRecDepth 100000
set_option linter.unusedSimpArgs false
namespace Go.Proofs.YtmeejegdgfkogaaDoor
open Go Go.Av

/-! Lists of acts, as texts. -/

noncomputable def X13 : Fx := ⟨Tryd.prog, tys, 13, Tryd.f13, [0, 1]⟩
theorem X13_ok : X13.Ok := ⟨Tryd.func13, tys_ok⟩
theorem eqAct_ct (x y : Ac) : Ct Tryd.prog 13 [acA x, acA y] (bo (decide (x = y))) [] := by
  obtain ⟨a1, a2, a3⟩ := x
  obtain ⟨b1, b2, b3⟩ := y
  refine Ct.intro X13 X13_ok rfl rfl rfl rfl fun g hg => ?_
  repeat (refine Run.go rfl ?_)
  refine Run.cond rfl (fun h => ?_) (fun h1 => ?_)
  · repeat (refine Run.go rfl ?_)
    refine Run.ret hg rfl ?_
    show bo _ = _
    simp at h
    simp [h]
  repeat (refine Run.go rfl ?_)
  refine Run.cond rfl (fun h => ?_) (fun h2 => ?_)
  · repeat (refine Run.go rfl ?_)
    refine Run.ret hg rfl ?_
    show bo _ = _
    simp at h
    simp [h]
  repeat (refine Run.go rfl ?_)
  refine Run.cond rfl (fun h => ?_) (fun h3 => ?_)
  · repeat (refine Run.go rfl ?_)
    refine Run.ret hg rfl ?_
    show bo _ = _
    simp at h
    simp [h]
  repeat (refine Run.go rfl ?_)
  refine Run.ret hg rfl ?_
  show bo _ = _
  simp at h1 h2 h3
  simp [h1, h2, h3]

def szA (l : List Ac) (n : Int) : Int := if n - l.length < 0 then -1 else n - l.length

noncomputable def X6 : Fx := ⟨Tryd.prog, tys, 6, Tryd.f6, [0, 1]⟩
theorem X6_ok : X6.Ok := ⟨Tryd.func6, tys_ok⟩
theorem eqActS_ct (l m : List Ac) (ex ex' : Bool) (hb : l.length ≤ 1048576) : Ct Tryd.prog 6 [.ro 3 ex (l.map acA), .ro 3 ex' (m.map acA)] (bo (decide (l = m))) [] := by
  refine Ct.intro X6 X6_ok rfl rfl rfl rfl fun g hg => ?_
  repeat (refine Run.go rfl ?_)
  refine Run.cond rfl (fun h => ?_) (fun h => ?_)
  · repeat (refine Run.go rfl ?_)
    refine Run.ret hg rfl ?_
    show bo _ = _
    congr 2
    simp at h
    symm
    simp
    rintro rfl
    exact h rfl
  · have hlen : l.length = m.length := by simp at h; omega
    repeat (refine Run.go rfl ?_)
    refine Run.loop (fun j : Nat => ⟨[(0, .ro 3 ex (l.map acA)), (1, .ro 3 ex' (m.map acA)), (5, i64 j)], []⟩) (fun j => j ≤ l.length ∧ l.take j = m.take j) (fun j => l.length - j) 0 ⟨by omega, rfl⟩ ?_ ?_
    · exact St.Le.mk' ⟨rfl, rfl, rfl, trivial⟩ trivial
    · rintro j ⟨hj, hjm⟩ IH
      repeat (refine Run.go rfl ?_)
      refine Run.cond rfl (fun h => ?_) (fun h => ?_)
      · have hlt : j < l.length := by simpa using h
        have hlt' : j < m.length := by omega
        repeat (refine Run.go rfl ?_)
        refine Run.draw (by kernel_rfl) (by decide +kernel) ?_
        repeat (refine Quiet.go rfl ?_)
        refine Quiet.val rfl rfl (ValOk.idx (acA l[j]) rfl rfl rfl rfl rfl (by omega) (by simp [hlt])) rfl ?_
        repeat (refine Quiet.go rfl ?_)
        refine Quiet.val rfl rfl (ValOk.idx (acA m[j]) rfl rfl rfl rfl rfl (by omega) (by simp [hlt'])) rfl ?_
        repeat (refine Quiet.go rfl ?_)
        refine Quiet.cs rfl rfl rfl rfl rfl (eqAct_ct l[j] m[j]) rfl rfl ?_
        repeat (refine Quiet.go rfl ?_)
        refine Quiet.nil ?_
        repeat (refine Run.go rfl ?_)
        refine Run.cond rfl (fun h => ?_) (fun h => ?_)
        · repeat (refine Run.go rfl ?_)
          refine Run.ret hg rfl ?_
          show bo _ = _
          congr 2
          symm
          simp at h ⊢
          rintro rfl
          exact h rfl
        · repeat (refine Run.go rfl ?_)
          refine Run.of (IH (j + 1) ⟨by omega, ?_⟩ (by omega)) ⟨rfl, rfl, ?_, trivial⟩ trivial
          · rw [List.take_succ_eq_append_getElem hlt, List.take_succ_eq_append_getElem hlt', hjm]
            simp at h
            rw [h]
          · show i64 _ = _
            rw [wrap_i64 (by omega) (by omega)]
            rfl
      · have hj' : j = l.length := by simp at h; omega
        repeat (refine Run.go rfl ?_)
        refine Run.ret hg rfl ?_
        show bo _ = _
        rw [List.take_of_length_le (by omega), List.take_of_length_le (by omega)] at hjm
        simp [hjm]

/-- Lines. -/
def lns {α : Type} (tx : α → List UInt8) (l : List α) : List UInt8 := l.flatMap fun x => tx x ++ [10]
theorem lns_step {α : Type} {tx : α → List UInt8} {l : List α} {j : Nat} (h : j < l.length) : lns tx (l.take (j + 1)) = lns tx (l.take j) ++ (tx l[j] ++ [10]) := by
  unfold lns
  rw [List.take_succ_eq_append_getElem h, List.flatMap_append]
  simp only [List.flatMap_cons, List.flatMap_nil, List.append_nil]
theorem lns_len {α : Type} {tx : α → List UInt8} {l : List α} {n : Nat} (h : ∀ x ∈ l, (tx x).length ≤ n) : (lns tx l).length ≤ l.length * (n + 1) := by
  induction l with
  | nil => simp [lns]
  | cons x l ih =>
    have h1 := h x (by simp)
    have h2 := ih fun y hy => h y (by simp [hy])
    simp only [lns, List.flatMap_cons, List.length_append, List.length_cons, List.length_nil, Nat.succ_mul] at h2 ⊢
    omega

theorem aText_len {a : Ac} (hr : acRng a) (h : aOk a = true) : (aText a).length ≤ 1000 := by
  have hw := aOk_what h
  obtain ⟨w, p, b⟩ := a
  simp only at hw
  have hwl : (wordsL.getD w.toNat []).length ≤ 6 := by
    have hb : w.toNat = 0 ∨ w.toNat = 1 ∨ w.toNat = 2 ∨ w.toNat = 3 ∨ w.toNat = 4 ∨ w.toNat = 5 := by omega
    rcases hb with h | h | h | h | h | h <;> rw [h] <;> decide
  unfold aText
  simp only
  split
  · omega
  · rename_i h5
    obtain ⟨hp, hb⟩ := aOk_num h h5
    simp only at hp hb
    have lp := dl_len p.toNat (by omega)
    have lb := dl_len b.toNat (by omega)
    simp only [List.length_append, List.length_cons, List.length_nil]
    omega

def asRes (l : List Ac) : List UInt8 := if l.length ≤ 200 ∧ l.all aOk = true then lns aText l else []

end Go.Proofs.YtmeejegdgfkogaaDoor
