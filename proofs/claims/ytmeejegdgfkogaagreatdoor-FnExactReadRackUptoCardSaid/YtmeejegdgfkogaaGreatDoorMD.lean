/- Parts of a proof, in one text: D1, D2, D3, D4, D5, D6, D7, DRd, D8, D9, D10, D11, D12, D13, D14, D15, D16, D17, D18, D19, D20. -/
import Derived.Test.YtmeejegdgfkogaaGreatDoorAvTys
import Derived.Test.YtmeejegdgfkogaaGreatDoorMB
import Derived.Test.YtmeejegdgfkogaaGreatDoorAvRow
set_option linter.unusedVariables false

/- Contracts of the program's functions, and what follows from them. -/
set_option maxRecDepth 100000
namespace Go.Proofs.YtmeejegdgfkogaaGreatDoor
open Go Go.Av

structure Cp where
  st : Int
  who : Int
  due : Int
  ren : Int
  q : List Int
  deriving DecidableEq
structure Dk where
  day : Int
  cs : List Cp
  deriving DecidableEq

def cpO (c : Cp) : AV := .agg [i8 c.st, i8 c.who, i16 c.due, i8 c.ren, .own 1 true (c.q.map i8)]
def cpR (ex : Bool) (c : Cp) : AV := .agg [i8 c.st, i8 c.who, i16 c.due, i8 c.ren, .ro 1 ex (c.q.map i8)]
def dkO (d : Dk) : AV := .agg [i16 d.day, .own 5 true (d.cs.map cpO)]
def dkR (ex ex' : Bool) (d : Dk) : AV := .agg [i16 d.day, .ro 5 ex (d.cs.map (cpR ex'))]

theorem frz8 (l : List Int) : AV.frzL (l.map i8) = l.map i8 := frzL_map (fun _ => rfl) l
theorem rf8 (l : List Int) : AV.rfL (l.map i8) = true := rfL_map (fun _ => rfl) l
theorem cpO_rf (c : Cp) : (cpO c).rf = true := by
  simp only [cpO, AV.rf, AV.rfL, rf8]; rfl
theorem cpO_frz (c : Cp) : (cpO c).frz = cpR true c := by
  simp only [cpO, cpR, AV.frz, AV.frzL, frz8]
theorem dkO_rf (d : Dk) : (dkO d).rf = true := by
  simp only [dkO, AV.rf, AV.rfL, rfL_map cpO_rf]; rfl
theorem dkO_frz (d : Dk) : (dkO d).frz = dkR true true d := by
  simp only [dkO, dkR, AV.frz, AV.frzL, frzL_map cpO_frz]

end Go.Proofs.YtmeejegdgfkogaaGreatDoor

/- Contracts of the program's functions, and what follows from them. -/
set_option maxRecDepth 100000
namespace Go.Proofs.YtmeejegdgfkogaaGreatDoor
open Go Go.Av

def cpZ : AV := .agg [i8 0, i8 0, i16 0, i8 0, .lit (.slice none 0 0)]

def szQ (l : List Int) (n : Int) : Int := if n - l.length < 0 then -1 else n - l.length
def szCs : List Cp → Int → Int
  | [], n => n
  | c :: cs, n => if szQ c.q n < 0 then -1 else szCs cs (szQ c.q n)
def szD (d : Dk) (n : Int) : Int := if n - d.cs.length < 0 then -1 else szCs d.cs (n - d.cs.length)

theorem szQ_le {l : List Int} {n : Int} (h : 0 ≤ n) : szQ l n ≤ n ∧ -1 ≤ szQ l n := by
  unfold szQ; split <;> omega
theorem szQ_neg {l : List Int} {n : Int} (h : 0 ≤ n) (h' : szQ l n < 0) : szQ l n = -1 := by
  unfold szQ at *; split <;> simp_all

theorem szCs_neg {l : List Cp} {n : Int} (h : 0 ≤ n) (h' : szCs l n < 0) : szCs l n = -1 := by
  induction l generalizing n with
  | nil => simp [szCs] at h'; omega
  | cons c l ih =>
    rw [szCs] at *
    split
    · rfl
    · rw [if_neg (by assumption)] at h'
      exact ih (by omega) h'
theorem szD_neg {d : Dk} {n : Int} (h : 0 ≤ n) (h' : szD d n < 0) : szD d n = -1 := by
  unfold szD at *
  split
  · rfl
  · rw [if_neg (by assumption)] at h'
    exact szCs_neg (by omega) h'

end Go.Proofs.YtmeejegdgfkogaaGreatDoor

/- Contracts of the program's functions, and what follows from them. -/
set_option maxRecDepth 100000
namespace Go.Proofs.YtmeejegdgfkogaaGreatDoor
open Go Go.Av

end Go.Proofs.YtmeejegdgfkogaaGreatDoor

/- Contracts of the program's functions, and what follows from them. -/
set_option maxRecDepth 100000
namespace Go.Proofs.YtmeejegdgfkogaaGreatDoor
open Go Go.Av

/-- Numbers from k on, as the marks are. -/
def mk8 (n : Nat) (k : Int) : List Int := (List.range n).map fun i : Nat => IntKind.i8.wrap (k + (i : Int))

/-- A copy that is marked from k on. -/
def mkC (c : Cp) (k : Int) : Cp := ⟨IntKind.i8.wrap k, IntKind.i8.wrap (k + 1), IntKind.i16.wrap (k + 2), IntKind.i8.wrap (k + 3), mk8 c.q.length (k + 4)⟩
def cnt (l : List Cp) : Nat := (l.map fun c => c.q.length + 4).sum
def mkCs : List Cp → Int → List Cp
  | [], _ => []
  | c :: l, k => mkC c k :: mkCs l (k + (c.q.length + 4 : Nat))

theorem mkCs_len (l : List Cp) (k : Int) : (mkCs l k).length = l.length := by
  induction l generalizing k with
  | nil => rfl
  | cons c l ih => simp [mkCs, ih]
theorem cnt_cons (c : Cp) (l : List Cp) : cnt (c :: l) = c.q.length + 4 + cnt l := by simp [cnt]
theorem cnt_append (l m : List Cp) : cnt (l ++ m) = cnt l + cnt m := by simp [cnt]
theorem mkCs_append (l m : List Cp) (k : Int) : mkCs (l ++ m) k = mkCs l k ++ mkCs m (k + (cnt l : Nat)) := by
  induction l generalizing k with
  | nil => simp [mkCs, cnt]
  | cons c l ih =>
    simp only [List.cons_append, mkCs, ih, cnt_cons]
    congr 3
    omega
theorem mkCs_step {l : List Cp} {j : Nat} (h : j < l.length) (k : Int) : mkCs (l.take (j + 1)) k = mkCs (l.take j) k ++ [mkC l[j] (k + (cnt (l.take j) : Nat))] := by
  rw [List.take_succ_eq_append_getElem h, mkCs_append]
  rfl
theorem cnt_step {l : List Cp} {j : Nat} (h : j < l.length) : cnt (l.take (j + 1)) = cnt (l.take j) + (l[j].q.length + 4) := by
  rw [List.take_succ_eq_append_getElem h, cnt_append]
  rfl
theorem cnt_take (l : List Cp) (j : Nat) : cnt (l.take j) ≤ cnt l := by
  have := cnt_append (l.take j) (l.drop j)
  rw [List.take_append_drop] at this
  omega

def mkD (d : Dk) (k : Int) : Dk := ⟨d.day, mkCs d.cs k⟩

end Go.Proofs.YtmeejegdgfkogaaGreatDoor

/- Contracts of the program's functions, and what follows from them. -/
set_option maxRecDepth 100000
namespace Go.Proofs.YtmeejegdgfkogaaGreatDoor
open Go Go.Av

theorem mkCs_get {l : List Cp} {j : Nat} (h : j < l.length) (k : Int) : (mkCs l k)[j]? = some (mkC l[j] (k + (cnt (l.take j) : Nat))) := by
  have e : mkCs l k = mkCs (l.take j) k ++ mkCs (l.drop j) (k + (cnt (l.take j) : Nat)) := by
    rw [← mkCs_append, List.take_append_drop]
  rw [e, List.getElem?_append_right (by rw [mkCs_len, List.length_take]; omega), mkCs_len, List.drop_eq_getElem_cons h]
  simp [mkCs, Nat.min_eq_left (Nat.le_of_lt h)]

end Go.Proofs.YtmeejegdgfkogaaGreatDoor

/- Contracts of the program's functions, and what follows from them. -/
set_option maxRecDepth 100000
namespace Go.Proofs.YtmeejegdgfkogaaGreatDoor
open Go Go.Av

def inr (a b c : Int) : Bool := decide (b ≤ a) && decide (a ≤ c)

noncomputable def X23 : Fx := ⟨Tryz.prog, tys, 23, Tryz.f23, [0, 1, 2]⟩
theorem X23_ok : X23.Ok := ⟨Tryz.func23, tys_ok⟩
theorem l00In_ct (a b c : Int) : Ct Tryz.prog 23 [i64 a, i64 b, i64 c] (bo (inr a b c)) [] := by
  refine Ct.intro X23 X23_ok rfl rfl rfl rfl fun g hg => ?_
  repeat (refine Run.step rfl ?_)
  refine Run.bool 10 rfl (fun h => ?_) (fun h => ?_)
  · repeat (refine Run.step rfl ?_)
    refine Run.ret hg rfl ?_
    show bo _ = _
    simp_all [inr]
  · repeat (refine Run.step rfl ?_)
    refine Run.ret hg rfl ?_
    show bo _ = _
    simp_all [inr] <;> omega

noncomputable def X33 : Fx := ⟨Tryz.prog, tys, 33, Tryz.f33, [0, 1, 2]⟩
theorem X33_ok : X33.Ok := ⟨Tryz.func33, tys_ok⟩
theorem within64_ct (a b c : Int) : Ct Tryz.prog 33 [i64 a, i64 b, i64 c] (bo (inr a b c)) [] := by
  refine Ct.intro X33 X33_ok rfl rfl rfl rfl fun g hg => ?_
  repeat (refine Run.step rfl ?_)
  refine Run.bool 10 rfl (fun h => ?_) (fun h => ?_)
  · repeat (refine Run.step rfl ?_)
    refine Run.ret hg rfl ?_
    show bo _ = _
    simp_all [inr]
  · repeat (refine Run.step rfl ?_)
    refine Run.ret hg rfl ?_
    show bo _ = _
    simp_all [inr] <;> omega

def cp0 : Cp := ⟨0, 0, 0, 0, []⟩
def empD (n : Int) : Dk := if inr n 0 60 then ⟨0, List.replicate n.toNat cp0⟩ else ⟨0, []⟩
def empC (n : Int) : Int := if inr n 0 60 then 0 else 2

theorem conv0 (n : Nat) (w : World) (L : Nat → Prop) (m : Nat) (x y : AV) (hx : (List.replicate n cpZ)[m]? = some x) (hy : ((List.replicate n cp0).map cpO)[m]? = some y) :
    ∀ (j : Nat) (p q : AV) (v : Value) (H : List Nat), x.cells[j]? = some p → y.cells[j]? = some q → Rel w L noEnv p v H → Rel w L noEnv q v H := by
  have ex : x = cpZ := (List.eq_of_mem_replicate (List.mem_of_getElem? hx))
  have ey : y = cpO cp0 := by
    rw [List.map_replicate] at hy
    exact (List.eq_of_mem_replicate (List.mem_of_getElem? hy))
  subst ex; subst ey
  intro j p q v H hp hq hr
  match j with
  | 0 => cases hp; cases hq; exact hr
  | 1 => cases hp; cases hq; exact hr
  | 2 => cases hp; cases hq; exact hr
  | 3 => cases hp; cases hq; exact hr
  | 4 => cases hp; cases hq; cases hr; exact .ownNil _ _ _ _
  | j + 5 => simp [cpZ, AV.cells] at hp

theorem cnt_rep (n : Nat) : cnt (List.replicate n cp0) = n * 4 := by
  simp [cnt, cp0]

theorem emp_len (n : Int) : (empD n).cs.length ≤ 60 ∧ (∀ c ∈ (empD n).cs, c.q.length ≤ 1048576) ∧ cnt (empD n).cs ≤ 240 := by
  unfold empD
  split
  · rename_i h
    simp [inr] at h
    refine ⟨by simp; omega, fun c hc => ?_, by rw [cnt_rep]; omega⟩
    rw [List.eq_of_mem_replicate hc]
    simp [cp0]
  · simp [cnt]

end Go.Proofs.YtmeejegdgfkogaaGreatDoor

/- Contracts of the program's functions, and what follows from them. -/
set_option maxRecDepth 100000
namespace Go.Proofs.YtmeejegdgfkogaaGreatDoor
open Go Go.Av

theorem rp_bo {p q : Prop} [Decidable p] [Decidable q] (h : p ↔ q) : bo (decide p) = bo (decide q) := by
  congr 2; exact propext h

theorem szD_bound {d : Dk} {n : Int} (h : 0 ≤ n) (h2 : n ≤ 1048576) : szD d n ≤ 1048576 := by
  have : ∀ (l : List Cp) (n : Int), 0 ≤ n → n ≤ 1048576 → szCs l n ≤ 1048576 := by
    intro l
    induction l with
    | nil => intro n _ h; exact h
    | cons c l ih =>
      intro n h0 h1
      rw [szCs]
      have := szQ_le (l := c.q) h0
      split
      · omega
      · exact ih _ (by omega) (by omega)
  unfold szD
  split
  · omega
  · exact this _ _ (by omega) (by omega)

/-- A desk that a row may speak of. -/
def dkOk (d : Dk) : Prop := d.cs.length ≤ 1048576 ∧ ∀ c ∈ d.cs, c.q.length ≤ 1048576

theorem dk_exp (d : Dk) : [dkR true true d] = [dkR true true d] := rfl

end Go.Proofs.YtmeejegdgfkogaaGreatDoor

/- Contracts of the program's functions, and what follows from them. -/
set_option maxRecDepth 100000
namespace Go.Proofs.YtmeejegdgfkogaaGreatDoor
open Go Go.Av

def i8r (n : Int) : Prop := -128 ≤ n ∧ n ≤ 127
def i16r (n : Int) : Prop := -32768 ≤ n ∧ n ≤ 32767
def cpRng (c : Cp) : Prop := i8r c.st ∧ i8r c.who ∧ i16r c.due ∧ i8r c.ren ∧ ∀ x ∈ c.q, i8r x
def dkRng (d : Dk) : Prop := i16r d.day ∧ ∀ c ∈ d.cs, cpRng c

theorem wf8 {n : Int} (h : (Lit.int .i8 n).wf = true) : i8r n := by
  simpa [Lit.wf, IntKind.min, IntKind.max, IntKind.signed, IntKind.bits, i8r] using h
theorem wf16 {n : Int} (h : (Lit.int .i16 n).wf = true) : i16r n := by
  simpa [Lit.wf, IntKind.min, IntKind.max, IntKind.signed, IntKind.bits, i16r] using h

end Go.Proofs.YtmeejegdgfkogaaGreatDoor

/- Contracts of the program's functions, and what follows from them. -/
set_option maxRecDepth 100000
namespace Go.Proofs.YtmeejegdgfkogaaGreatDoor
open Go Go.Av

/-! Persons, places in queues. -/

/-- The place of the first, or -1. -/
def fi {α : Type} (p : α → Bool) (l : List α) : Int := if l.findIdx p < l.length then (l.findIdx p : Int) else -1

theorem fi_nonneg {α : Type} (p : α → Bool) (l : List α) : decide (0 ≤ fi p l) = l.any p := by
  unfold fi
  by_cases h : l.any p = true
  · rw [if_pos (List.findIdx_lt_length_of_exists (by simpa using h))]
    simp [h]
  · have : ¬ l.findIdx p < l.length := by
      intro h'
      apply h
      rw [List.any_eq_true]
      exact ⟨_, List.getElem_mem h', List.findIdx_getElem⟩
    rw [if_neg this]
    simp only [Bool.not_eq_true] at h
    simp [h]

theorem fi_at {α : Type} {p : α → Bool} {l : List α} {j : Nat} (hj : j < l.length) (hp : p l[j] = true) (hn : j ≤ l.findIdx p) : fi p l = j := by
  have : l.findIdx p = j := by
    refine Nat.le_antisymm (Nat.le_of_not_lt fun hlt' => ?_) hn
    have := List.not_of_lt_findIdx hlt'
    simp_all
  simp [fi, this, hj]
theorem fi_none {α : Type} {p : α → Bool} {l : List α} (hn : l.length ≤ l.findIdx p) : fi p l = -1 := by
  rw [fi, if_neg (by omega)]
theorem fi_next {α : Type} {p : α → Bool} {l : List α} {j : Nat} (hj : j < l.length) (hp : p l[j] = false) (hn : j ≤ l.findIdx p) : j + 1 ≤ l.findIdx p := by
  refine Nat.lt_of_le_of_ne hn fun e => ?_
  have := List.findIdx_getElem (p := p) (xs := l) (w := e ▸ hj)
  simp_all

noncomputable def X34 : Fx := ⟨Tryz.prog, tys, 34, Tryz.f34, [0, 1, 2]⟩
theorem X34_ok : X34.Ok := ⟨Tryz.func34, tys_ok⟩
theorem within16_ct (a b c : Int) : Ct Tryz.prog 34 [i16 a, i16 b, i16 c] (bo (inr a b c)) [] := by
  refine Ct.intro X34 X34_ok rfl rfl rfl rfl fun g hg => ?_
  repeat (refine Run.step rfl ?_)
  refine Run.bool 10 rfl (fun h => ?_) (fun h => ?_)
  · repeat (refine Run.step rfl ?_)
    refine Run.ret hg rfl ?_
    show bo _ = _
    simp_all [inr]
  · repeat (refine Run.step rfl ?_)
    refine Run.ret hg rfl ?_
    show bo _ = _
    simp_all [inr] <;> omega

/-- The places at which something holds, as numbers. -/
def idxs {α : Type} (p : α → Bool) (l : List α) : List Int := (l.zipIdx.filter fun x => p x.1).map fun x => (x.2 : Int)

theorem idxs_step {α : Type} {p : α → Bool} {l : List α} {j : Nat} (h : j < l.length) : idxs p (l.take (j + 1)) = if p l[j] then idxs p (l.take j) ++ [(j : Int)] else idxs p (l.take j) := by
  unfold idxs
  rw [List.take_succ_eq_append_getElem h, List.zipIdx_append, List.filter_append, List.map_append]
  have e : (l.take j).length = j := by simp; omega
  simp only [List.zipIdx_cons, List.zipIdx_nil, Nat.zero_add, e]
  split <;> rename_i hp <;> simp [hp]
theorem idxs_len {α : Type} (p : α → Bool) (l : List α) : (idxs p l).length ≤ l.length := by
  unfold idxs
  rw [List.length_map]
  exact Nat.le_trans (List.length_filter_le _ _) (by simp)

theorem frz64 (l : List Int) : AV.frzL (l.map i64) = l.map i64 := frzL_map (fun _ => rfl) l
theorem rf64 (l : List Int) : AV.rfL (l.map i64) = true := rfL_map (fun _ => rfl) l

end Go.Proofs.YtmeejegdgfkogaaGreatDoor

/- Contracts of the program's functions, and what follows from them. -/
set_option maxRecDepth 100000
namespace Go.Proofs.YtmeejegdgfkogaaGreatDoor
open Go Go.Av

/-! A valid copy. -/

def qOk (who : Int) (q : List Int) : Bool := decide (∀ x ∈ q, inr x 0 49 = true) && decide ((who :: q).Nodup)
def vC (c : Cp) (day : Int) : Bool :=
  if c.st = 0 then decide (c.who = 0) && decide (c.due = 0) && decide (c.ren = 0) && decide (c.q = [])
  else (decide (c.st = 1) || decide (c.st = 2)) && inr c.who 0 49 && inr c.due 0 10028 && decide (c.q.length ≤ 4) && qOk c.who c.q &&
    (if c.st = 2 then decide (c.ren = 0) && decide (day ≤ c.due) else inr c.ren 0 2)

def seenL (l : List Int) : List (Int × Value) := l.map fun x => (x, .bool true)
theorem mget_seen (l : List Int) (n : Int) : (mget (seenL l) n).getD (.bool false) = .bool (decide (n ∈ l)) := by
  unfold mget seenL
  induction l with
  | nil => rfl
  | cons x l ih =>
    simp only [List.map_cons, List.find?_cons]
    by_cases h : x = n
    · subst h; simp
    · have e : (x == n) = false := by simpa using h
      rw [e]
      rw [ih]
      congr 1
      simp [Ne.symm h]
theorem mget_seen_none {l : List Int} {n : Int} (h : n ∉ l) : mget (seenL l) n = none := by
  unfold mget seenL
  induction l with
  | nil => rfl
  | cons x l ih =>
    simp only [List.map_cons, List.find?_cons]
    have e : (x == n) = false := by simp; rintro rfl; exact h (by simp)
    rw [e]
    exact ih fun hm => h (List.mem_cons_of_mem _ hm)

theorem qOk_false {who : Int} {q : List Int} {j : Nat} (hj : j < q.length) (h : inr q[j] 0 49 = false ∨ q[j] ∈ who :: q.take j) : qOk who q = false := by
  unfold qOk
  rw [Bool.and_eq_false_iff]
  rcases h with h | h
  · left
    rw [decide_eq_false_iff_not]
    intro hall
    have := hall q[j] (by simp)
    rw [h] at this
    cases this
  · right
    rw [decide_eq_false_iff_not]
    intro hn
    have e : who :: q = (who :: q.take j) ++ q[j] :: q.drop (j + 1) := by
      rw [← List.drop_eq_getElem_cons hj, List.cons_append, List.take_append_drop]
    rw [e, List.nodup_append] at hn
    exact hn.2.2 q[j] h q[j] List.mem_cons_self rfl

end Go.Proofs.YtmeejegdgfkogaaGreatDoor

/- Contracts of the program's functions, and what follows from them. -/
set_option maxRecDepth 100000
namespace Go.Proofs.YtmeejegdgfkogaaGreatDoor
open Go Go.Av

/-! Valid desks, in the program. -/

def nums (n : Nat) : List Int := (List.range n).map fun k : Nat => (k : Int)

def lentTo (w : Int) (c : Cp) : Bool := decide (c.st = 1) && decide (c.who = w)
def vD (d : Dk) : Bool := inr d.day 0 10000 && decide (d.cs.length ≤ 60) && d.cs.all (fun c => vC c d.day) && (nums 50).all fun w => decide ((idxs (lentTo w) d.cs).length ≤ 3)

end Go.Proofs.YtmeejegdgfkogaaGreatDoor

/- Contracts of the program's functions, and what follows from them. -/
set_option maxRecDepth 100000
namespace Go.Proofs.YtmeejegdgfkogaaGreatDoor
open Go Go.Av

/-! Valid desks, in the reference. -/

theorem w64 {n : Int} (h : i16r n) : IntKind.i64.wrap n = n := wrap_i64 (by have := h.1; omega) (by have := h.2; omega)
theorem w64' {n : Int} (h : i8r n) : IntKind.i64.wrap n = n := wrap_i64 (by have := h.1; omega) (by have := h.2; omega)

/-- The reference's word for a queue. -/
theorem fi_first {q : List Int} {j : Nat} (hj : j < q.length) : fi (fun x => x == q[j]) q = j ↔ q[j] ∉ q.take j := by
  unfold fi
  have hlt : q.findIdx (fun x => x == q[j]) < q.length := List.findIdx_lt_length_of_exists ⟨q[j], by simp, by simp⟩
  rw [if_pos hlt]
  constructor
  · intro h hm
    have h' : q.findIdx (fun x => x == q[j]) = j := by omega
    obtain ⟨i, hi, e⟩ := List.getElem_of_mem hm
    have hi' : i < j := by simp at hi; omega
    have := List.not_of_lt_findIdx (p := fun x => x == q[j]) (xs := q) (i := i) (by omega)
    simp at this
    apply this
    simpa using e
  · intro hn
    have hle : q.findIdx (fun x => x == q[j]) ≤ j := by
      refine Nat.le_of_not_lt fun hgt => ?_
      have := List.not_of_lt_findIdx (p := fun x => x == q[j]) (xs := q) (i := j) hgt
      simp at this
    have hat := List.findIdx_getElem (p := fun x => x == q[j]) (xs := q) (w := hlt)
    have hge : ¬ q.findIdx (fun x => x == q[j]) < j := by
      intro hl
      apply hn
      have e : q[q.findIdx (fun x => x == q[j])] = q[j] := by simpa using hat
      rw [← e]
      exact List.mem_take_iff_getElem.2 ⟨_, by omega, rfl⟩
    omega

end Go.Proofs.YtmeejegdgfkogaaGreatDoor

/- Contracts of the program's functions, and what follows from them. -/
set_option maxRecDepth 100000
namespace Go.Proofs.YtmeejegdgfkogaaGreatDoor
open Go Go.Av

end Go.Proofs.YtmeejegdgfkogaaGreatDoor

/- Contracts of the program's functions, and what follows from them. -/
set_option maxRecDepth 100000
namespace Go.Proofs.YtmeejegdgfkogaaGreatDoor
open Go Go.Av

/-! A desk, a person and a book: their code; fines. -/

def dCode (d : Dk) (who book : Int) : Int := if vD d then (if inr who 0 49 && inr book 0 (d.cs.length - 1) then 0 else 2) else 1

theorem dCode_0 {d : Dk} {who book : Int} (h : dCode d who book = 0) : vD d = true ∧ inr who 0 49 = true ∧ ∃ j : Nat, book = j ∧ j < d.cs.length := by
  unfold dCode at h
  split at h
  · rename_i hv
    split at h
    · rename_i hi
      rw [Bool.and_eq_true] at hi
      refine ⟨hv, hi.1, book.toNat, ?_, ?_⟩ <;> (have := hi.2; simp [inr] at this; omega)
    · cases h
  · cases h

theorem vD_day {d : Dk} (h : vD d = true) : 0 ≤ d.day ∧ d.day ≤ 10000 := by
  simp only [vD, Bool.and_eq_true] at h
  simpa [inr] using h.1.1.1
theorem vD_len {d : Dk} (h : vD d = true) : d.cs.length ≤ 60 := by
  simp only [vD, Bool.and_eq_true, decide_eq_true_eq] at h
  exact h.1.1.2
theorem vD_cp {d : Dk} (h : vD d = true) : ∀ c ∈ d.cs, vC c d.day = true := by
  simp only [vD, Bool.and_eq_true] at h
  simpa using h.1.2
theorem vC_due {c : Cp} {day : Int} (h : vC c day = true) : 0 ≤ c.due ∧ c.due ≤ 10028 := by
  unfold vC at h
  split at h
  · simp at h; omega
  · simp only [Bool.and_eq_true] at h
    simpa [inr] using h.1.1.1.2

def over (day : Int) (c : Cp) : Bool := decide (c.st = 1) && decide (c.due < day)
def fineP (day : Int) (c : Cp) : Int := if over day c then 5 * (day - c.due) else 0

def fineRes (d : Dk) (book : Int) : Int × Int := if dCode d 0 book = 0 then (fineP d.day (d.cs.getD book.toNat cp0), 0) else (0, dCode d 0 book)

end Go.Proofs.YtmeejegdgfkogaaGreatDoor

/- Contracts of the program's functions, and what follows from them. -/
set_option maxRecDepth 100000
namespace Go.Proofs.YtmeejegdgfkogaaGreatDoor
open Go Go.Av

/-! Places in queues; how long one waits. -/

def plq (d : Dk) (who book : Int) : Int := fi (fun x => x == who) (d.cs.getD book.toNat cp0).q
def placeRes (d : Dk) (who book : Int) : Int × Int := if dCode d who book = 0 then (if plq d who book < 0 then (0, 6) else (plq d who book, 0)) else (0, dCode d who book)

theorem inr_wrap {who : Int} (h : inr who 0 49 = true) : IntKind.i8.wrap who = who := by
  simp [inr] at h
  exact wrap_i8 (by omega) (by omega)

end Go.Proofs.YtmeejegdgfkogaaGreatDoor

/- Contracts of the program's functions, and what follows from them. -/
set_option maxRecDepth 100000
namespace Go.Proofs.YtmeejegdgfkogaaGreatDoor
open Go Go.Av

theorem fi_le {α : Type} (p : α → Bool) (l : List α) : fi p l ≤ l.length := by
  unfold fi
  split <;> omega

def waitP (d : Dk) (c : Cp) (p : Int) : Int := max 0 (c.due - d.day) + (if c.st = 2 then 28 else 0) + p * 35
def waitRes (d : Dk) (who book : Int) : Int × Int := if dCode d who book = 0 then (if plq d who book < 0 then (0, 6) else (waitP d (d.cs.getD book.toNat cp0) (plq d who book), 0)) else (0, dCode d who book)

theorem placeRes_0 {d : Dk} {who book : Int} (h : (placeRes d who book).2 = 0) : dCode d who book = 0 ∧ ¬ plq d who book < 0 ∧ (placeRes d who book).1 = plq d who book := by
  unfold placeRes at h ⊢
  split at h
  · rename_i h0
    split at h
    · cases h
    · rename_i h1
      rw [if_pos h0, if_neg h1]
      exact ⟨h0, h1, rfl⟩
  · contradiction

end Go.Proofs.YtmeejegdgfkogaaGreatDoor

/- Contracts of the program's functions, and what follows from them. -/
set_option maxRecDepth 100000
namespace Go.Proofs.YtmeejegdgfkogaaGreatDoor
open Go Go.Av

/-! Whether somebody may take a book. -/

def stMay (w : Int) (c : Cp) : Bool := decide (c.st = 0) || (decide (c.st = 2) && decide (c.who = w))
def mayP (d : Dk) (w : Int) (c : Cp) : Bool := stMay w c && decide ((idxs (lentTo w) d.cs).length < 3) && !d.cs.any (fun x => lentTo w x && over d.day x)

theorem mem_idxs {α : Type} {p : α → Bool} {l : List α} {i : Int} : i ∈ idxs p l ↔ ∃ j : Nat, ∃ h : j < l.length, i = j ∧ p l[j] = true := by
  simp only [idxs, List.mem_map, List.mem_filter, Prod.exists, List.mem_zipIdx_iff_getElem?]
  constructor
  · rintro ⟨a, b, ⟨h1, h2⟩, rfl⟩
    obtain ⟨hb, rfl⟩ := List.getElem?_eq_some_iff.mp h1
    exact ⟨b, hb, rfl, h2⟩
  · rintro ⟨j, hj, rfl, h⟩
    exact ⟨l[j], j, ⟨List.getElem?_eq_getElem hj, h⟩, rfl⟩

theorem any_idxs {l : List Cp} {p q : Cp → Bool} : (l.any fun x => p x && q x) = (idxs p l).any fun i => q (l.getD i.toNat cp0) := by
  rw [Bool.eq_iff_iff, List.any_eq_true, List.any_eq_true]
  constructor
  · rintro ⟨x, hx, hpq⟩
    obtain ⟨j, hj, rfl⟩ := List.getElem_of_mem hx
    rw [Bool.and_eq_true] at hpq
    exact ⟨(j : Int), mem_idxs.mpr ⟨j, hj, rfl, hpq.1⟩, by simpa [hj] using hpq.2⟩
  · rintro ⟨i, hi, hq⟩
    obtain ⟨j, hj, rfl, hp⟩ := mem_idxs.mp hi
    refine ⟨l[j], by simp, ?_⟩
    rw [hp]
    simpa [hj] using hq

def mayRes (d : Dk) (who book : Int) : Bool × Int := if dCode d who book = 0 then (mayP d who (d.cs.getD book.toNat cp0), 0) else (false, dCode d who book)

end Go.Proofs.YtmeejegdgfkogaaGreatDoor

/- Contracts of the program's functions, and what follows from them. -/
set_option maxRecDepth 100000
namespace Go.Proofs.YtmeejegdgfkogaaGreatDoor
open Go Go.Av

/-! How many copies have each state. -/

def nst (s : Int) (l : List Cp) : Nat := (l.filter fun c => c.st == s).length
theorem nst_step {s : Int} {l : List Cp} {j : Nat} (h : j < l.length) : nst s (l.take (j + 1)) = nst s (l.take j) + (if l[j].st = s then 1 else 0) := by
  rw [List.take_succ_eq_append_getElem h, nst, List.filter_append, List.length_append]
  congr 1
  by_cases e : l[j].st = s <;> simp [e]
theorem nst_le (s : Int) (l : List Cp) (j : Nat) : nst s (l.take j) ≤ l.length := by
  refine Nat.le_trans (List.length_filter_le _ _) ?_
  rw [List.length_take]
  omega
theorem vC_st {c : Cp} {day : Int} (h : vC c day = true) : c.st = 0 ∨ c.st = 1 ∨ c.st = 2 := by
  unfold vC at h
  split at h
  · rename_i h0
    exact Or.inl h0
  · simp only [Bool.and_eq_true, Bool.or_eq_true, decide_eq_true_eq] at h
    omega

def c3 (a b c : Nat) : AV := .agg [i64 a, i64 b, i64 c]
def cntA (l : List Cp) : AV := c3 (nst 0 l) (nst 1 l) (nst 2 l)
def cntRes (d : Dk) : AV := if vD d then .tup [cntA d.cs, i64 0] else .tup [c3 0 0 0, i64 1]

end Go.Proofs.YtmeejegdgfkogaaGreatDoor

/- Contracts of the program's functions, and what follows from them. -/
set_option maxRecDepth 100000
namespace Go.Proofs.YtmeejegdgfkogaaGreatDoor
open Go Go.Av

/-! Slices of whole numbers: compared, marked, held. -/

def mk64 (n : Nat) (k : Int) : List Int := (List.range n).map fun i : Nat => k + (i : Int)


/-! The sizes that the law lets in. -/

theorem szCs_cnt (l : List Cp) (n : Int) (h : 0 ≤ n) (h' : ¬ szCs l n < 0) : (cnt l : Nat) ≤ n + 4 * l.length := by
  induction l generalizing n with
  | nil => simp [cnt]; exact h
  | cons c l ih =>
    unfold szCs at h'
    split at h'
    · exact absurd (by decide) h'
    · rename_i hq
      have := ih _ (by omega) h'
      rw [cnt_cons]
      unfold szQ at this hq
      split at hq
      · rename_i h1
        exact absurd (by decide) hq
      · rename_i h1
        rw [if_neg h1] at this
        simp only [List.length_cons]
        omega

theorem szD_cnt (d : Dk) (n : Int) (h : 0 ≤ n) (h' : ¬ szD d n < 0) : (cnt d.cs : Nat) ≤ 4 * n := by
  unfold szD at h'
  split at h'
  · exact absurd (by decide) h'
  · have := szCs_cnt d.cs _ (by omega) h'
    omega
end Go.Proofs.YtmeejegdgfkogaaGreatDoor

/- Contracts of the program's functions, and what follows from them. -/
set_option maxRecDepth 100000
namespace Go.Proofs.YtmeejegdgfkogaaGreatDoor
open Go Go.Av

/-! Books as told, in a slice of their own. -/

def lsR (r : List Int × Int) : AV := .tup [.own 1 false (r.1.map i64), i64 r.2]
def offShelf (c : Cp) : Bool := decide (c.st ≠ 0)
def dumRes (d : Dk) : List Int × Int := if vD d then (idxs offShelf d.cs, 0) else ([], 1)

def loanRes (d : Dk) (who : Int) : List Int × Int := if vD d then (if inr who 0 49 then (idxs (lentTo who) d.cs, 0) else ([], 2)) else ([], 1)

def pCode (d : Dk) (who : Int) : Int := if vD d then (if inr who 0 49 then 0 else 2) else 1

theorem dumRes_len (d : Dk) : (dumRes d).1.length ≤ d.cs.length := by
  unfold dumRes
  split
  · exact idxs_len _ _
  · simp
theorem loanRes_len (d : Dk) (who : Int) : (loanRes d who).1.length ≤ d.cs.length := by
  unfold loanRes
  split
  · split
    · exact idxs_len _ _
    · simp
  · simp
end Go.Proofs.YtmeejegdgfkogaaGreatDoor

/- Contracts of the program's functions, and what follows from them. -/
set_option maxRecDepth 100000
namespace Go.Proofs.YtmeejegdgfkogaaGreatDoor
open Go Go.Av

/-! The book that is due next. -/

/-- The first member with the least value. -/
def mnL (F : Int → Int) : List Int → Int
  | [] => -1
  | x :: xs => xs.foldl (fun m y => if F y < F m then y else m) x

theorem mnL_snoc (F : Int → Int) (L : List Int) (y : Int) : mnL F (L ++ [y]) = if L = [] then y else if F y < F (mnL F L) then y else mnL F L := by
  cases L with
  | nil => rfl
  | cons x xs =>
    rw [if_neg (List.cons_ne_nil _ _)]
    show ((xs ++ [y]).foldl (fun m y => if F y < F m then y else m) x) = _
    rw [List.foldl_append]
    rfl

theorem mnL_mem (F : Int → Int) (L : List Int) (h : L ≠ []) : mnL F L ∈ L := by
  cases L with
  | nil => exact absurd rfl h
  | cons x xs =>
    simp only [mnL]
    clear h
    induction xs generalizing x with
    | nil => simp
    | cons z xs ih =>
      simp only [List.foldl_cons]
      have := ih (if F z < F x then z else x)
      split at this <;> rename_i hc
      · rw [if_pos hc]
        exact List.mem_cons_of_mem _ this
      · rw [if_neg hc]
        rcases List.mem_cons.mp this with h | h
        · rw [h]; simp
        · exact List.mem_cons_of_mem _ (List.mem_cons_of_mem _ h)

def cmpI (a b : Int) : Int := if a < b then -1 else if b < a then 1 else 0

noncomputable def X126 : Fx := ⟨Tryz.prog, tys, 126, Tryz.f126, [0]⟩
theorem X126_ok : X126.Ok := ⟨Tryz.func126, tys_ok⟩
theorem isNaN16_ct (a : Int) : Ct Tryz.prog 126 [i16 a] (bo false) [] := by
  refine Ct.intro X126 X126_ok rfl rfl rfl rfl fun g hg => ?_
  repeat (refine Run.go rfl ?_)
  refine Run.ret hg rfl ?_
  show bo (a != a) = _
  simp

noncomputable def X116 : Fx := ⟨Tryz.prog, tys, 116, Tryz.f116, [0, 1]⟩
theorem X116_ok : X116.Ok := ⟨Tryz.func116, tys_ok⟩
theorem compare16_ct (a b : Int) : Ct Tryz.prog 116 [i16 a, i16 b] (i64 (cmpI a b)) [] := by
  refine Ct.intro X116 X116_ok rfl rfl rfl rfl fun g hg => ?_
  repeat (refine Run.go rfl ?_)
  refine Run.cs rfl (isNaN16_ct a) rfl rfl ?_
  repeat (refine Run.go rfl ?_)
  refine Run.cs rfl (isNaN16_ct b) rfl rfl ?_
  repeat (refine Run.go rfl ?_)
  refine Run.cond rfl (fun h => by simp at h) (fun h => ?_)
  repeat (refine Run.go rfl ?_)
  refine Run.cond rfl (fun h => by simp at h) (fun h => ?_)
  repeat (refine Run.go rfl ?_)
  refine Run.cond rfl (fun h => ?_) (fun h => ?_)
  · repeat (refine Run.go rfl ?_)
    refine Run.ret hg rfl ?_
    have h : a < b := by simpa using h
    simp only [cmpI, if_pos h]
    rfl
  have h : ¬ a < b := by simpa using h
  repeat (refine Run.go rfl ?_)
  refine Run.cond rfl (fun h2 => ?_) (fun h2 => ?_)
  · repeat (refine Run.go rfl ?_)
    refine Run.ret hg rfl ?_
    have h2 : b < a := by simpa using h2
    simp only [cmpI, if_neg h, if_pos h2]
    rfl
  have h2 : ¬ b < a := by simpa using h2
  repeat (refine Run.go rfl ?_)
  refine Run.ret hg rfl ?_
  simp only [cmpI, if_neg h, if_neg h2]
  rfl

def dueOf (d : Dk) (i : Int) : Int := (d.cs.getD i.toNat cp0).due

theorem cmpI_neg {a b : Int} : decide (cmpI a b < 0) = decide (a < b) := by
  unfold cmpI
  split
  · rename_i h; simp [h]
  · rename_i h
    split <;> simp [h]

def isL (c : Cp) : Bool := decide (c.st = 1)
def ndI (d : Dk) : Int := mnL (dueOf d) (idxs isL d.cs)
def ndRes (d : Dk) : Int × Int × Int := if vD d then (if idxs isL d.cs = [] then (0, 0, 6) else (ndI d, dueOf d (ndI d), 0)) else (0, 0, 1)
def r3 (r : Int × Int × Int) : AV := .tup [i64 r.1, i64 r.2.1, i64 r.2.2]

theorem ndI_at (d : Dk) (h : idxs isL d.cs ≠ []) : ∃ i : Nat, ndI d = i ∧ i < d.cs.length := by
  obtain ⟨j, hj, e, _⟩ := mem_idxs.mp (mnL_mem (dueOf d) _ h)
  exact ⟨j, e, hj⟩

theorem mnL_idxs {d : Dk} {j : Nat} (h : j < d.cs.length) : mnL (dueOf d) (idxs isL (d.cs.take (j + 1))) =
    if isL d.cs[j] = true ∧ (mnL (dueOf d) (idxs isL (d.cs.take j)) < 0 ∨ d.cs[j].due < dueOf d (mnL (dueOf d) (idxs isL (d.cs.take j)))) then (j : Int) else mnL (dueOf d) (idxs isL (d.cs.take j)) := by
  rw [idxs_step h]
  have ed : dueOf d (j : Int) = d.cs[j].due := by simp [dueOf, h]
  by_cases hl : isL d.cs[j] = true
  · rw [if_pos hl, mnL_snoc]
    by_cases he : idxs isL (d.cs.take j) = []
    · rw [if_pos he, he, if_pos ⟨hl, Or.inl (show (-1 : Int) < 0 by decide)⟩]
    · rw [if_neg he]
      have hn : ¬ mnL (dueOf d) (idxs isL (d.cs.take j)) < 0 := by
        obtain ⟨i, hi, e, _⟩ := mem_idxs.mp (mnL_mem (dueOf d) _ he)
        omega
      rw [ed]
      by_cases hc : d.cs[j].due < dueOf d (mnL (dueOf d) (idxs isL (d.cs.take j)))
      · rw [if_pos hc, if_pos ⟨hl, Or.inr hc⟩]
      · rw [if_neg hc, if_neg (fun h => h.2.elim hn hc)]
  · rw [if_neg hl, if_neg (fun h => hl h.1)]

theorem mnL_neg {d : Dk} {l : List Cp} : mnL (dueOf d) (idxs isL l) < 0 ↔ idxs isL l = [] := by
  constructor
  · intro h
    apply Classical.byContradiction
    intro he
    obtain ⟨i, hi, e, _⟩ := mem_idxs.mp (mnL_mem (dueOf d) _ he)
    omega
  · intro h
    rw [h]
    exact (show (-1 : Int) < 0 by decide)

end Go.Proofs.YtmeejegdgfkogaaGreatDoor
