/- Contracts of the program's functions, and what follows from them. -/
import Derived.Test.YtgbiboepnibibaaD9
set_option linter.unusedVariables false
namespace Go.Proofs.Ytgbiboepnibibaa
open Go Go.Av

/-! Valid desks, in the program. -/

noncomputable def X139 : Fx := ⟨Try.prog, tys, 139, Try.f139, [0, 1]⟩
theorem X139_ok : X139.Ok := ⟨Try.func139, tys_ok⟩
theorem indexC_ct (l : List Cp) (ex e2 : Bool) (f : Nat) (caps : List AV) (p : Cp → Bool) (hlen : l.length ≤ 1048576) (hc : AV.freeL caps = true)
    (hf : ∀ x ∈ l, Ct Try.prog f ([cpR e2 x] ++ caps) (bo (p x)) []) : Ct Try.prog 139 [.ro 5 ex (l.map (cpR e2)), .fn f caps] (i64 (fi p l)) [] := by
  refine Ct.intro X139 X139_ok rfl (by kernel_rfl) rfl rfl fun g hg => ?_
  repeat (refine Run.step rfl ?_)
  refine Run.loop (fun j : Nat => ⟨[(0, .ro 5 ex (l.map (cpR e2))), (1, .fn f caps), (7, i64 l.length), (8, i64 j)], []⟩) (fun j => j ≤ l.length ∧ j ≤ l.findIdx p) (fun j => l.length - j) 0 ⟨by omega, by omega⟩ ?_ ?_
  · refine St.Le.mk' ⟨rfl, rfl, ?_, rfl, trivial⟩ trivial
    show i64 _ = _
    simp
  · rintro j ⟨hj1, hj2⟩ IH
    repeat (refine Run.step rfl ?_)
    refine Run.cond rfl (fun h => ?_) (fun h => ?_)
    · have hlt : j < l.length := by simpa using h
      repeat (refine Run.step rfl ?_)
      refine Run.val rfl rfl rfl (ValOk.idx (cpR e2 l[j]) rfl rfl rfl rfl rfl (by omega) (by simp [hlt])) rfl ?_
      repeat (refine Run.step rfl ?_)
      refine Run.callp rfl rfl rfl rfl rfl rfl rfl hc rfl (hf l[j] (by simp)) (by decide) (by decide) ?_
      repeat (refine Run.step rfl ?_)
      refine Run.cond rfl (fun h => ?_) (fun h => ?_)
      · repeat (refine Run.step rfl ?_)
        refine Run.ret hg rfl ?_
        show i64 _ = _
        rw [fi_at hlt h hj2]
      · repeat (refine Run.step rfl ?_)
        refine Run.of (IH (j + 1) ⟨by omega, fi_next hlt h hj2⟩ (by omega)) ⟨rfl, rfl, rfl, ?_, trivial⟩ trivial
        show i64 _ = _
        rw [wrap_i64 (by omega) (by omega)]
        rfl
    · repeat (refine Run.step rfl ?_)
      have hj : j = l.length := by simp at h; omega
      refine Run.ret hg rfl ?_
      show i64 (-1) = _
      rw [fi_none (by omega)]

noncomputable def X122 : Fx := ⟨Try.prog, tys, 122, Try.f122, [0, 1]⟩
theorem X122_ok : X122.Ok := ⟨Try.func122, tys_ok⟩
theorem containsC_ct (l : List Cp) (ex e2 : Bool) (f : Nat) (caps : List AV) (p : Cp → Bool) (hlen : l.length ≤ 1048576) (hc : AV.freeL caps = true)
    (hf : ∀ x ∈ l, Ct Try.prog f ([cpR e2 x] ++ caps) (bo (p x)) []) : Ct Try.prog 122 [.ro 5 ex (l.map (cpR e2)), .fn f caps] (bo (l.any p)) [] := by
  refine Ct.intro X122 X122_ok rfl (by kernel_rfl) rfl rfl fun g hg => ?_
  repeat (refine Run.go rfl ?_)
  refine Run.callp rfl rfl rfl rfl rfl rfl (by simp [AV.freeL, AV.free, hc]) rfl rfl (indexC_ct l ex e2 f caps p hlen hc hf) (by decide) (by decide) ?_
  repeat (refine Run.go rfl ?_)
  refine Run.ret hg rfl ?_
  show bo _ = _
  rw [← fi_nonneg]

noncomputable def X123 : Fx := ⟨Try.prog, tys, 123, Try.f123, [0, 1]⟩
theorem X123_ok : X123.Ok := ⟨Try.func123, tys_ok⟩
theorem areAllC1_ct (c : Cp) (e2 : Bool) (f : Nat) (cs : List AV) (jj : Nat) (p : Bool) (hf : Ct Try.prog f [cpR e2 c, .rp cs jj] (bo p) []) : Ct Try.prog 123 [cpR e2 c, .rp [.fn f [.rp cs jj]] 0] (bo (!p)) [] := by
  refine Ct.intro X123 X123_ok rfl (by kernel_rfl) rfl rfl fun g hg => ?_
  repeat (refine Run.go rfl ?_)
  refine Run.cs rfl hf rfl rfl ?_
  repeat (refine Run.go rfl ?_)
  exact Run.ret hg rfl rfl

noncomputable def X72 : Fx := ⟨Try.prog, tys, 72, Try.f72, [0, 1]⟩
theorem X72_ok : X72.Ok := ⟨Try.func72, tys_ok⟩
theorem areAllC_ct (l : List Cp) (ex e2 : Bool) (f : Nat) (cs : List AV) (jj : Nat) (p : Cp → Bool) (hlen : l.length ≤ 1048576) (hf : ∀ x ∈ l, Ct Try.prog f [cpR e2 x, .rp cs jj] (bo (p x)) []) :
    Ct Try.prog 72 [.ro 5 ex (l.map (cpR e2)), .fn f [.rp cs jj]] (bo (l.all p)) [] := by
  refine Ct.intro X72 X72_ok rfl (by kernel_rfl) rfl rfl fun g hg => ?_
  repeat (refine Run.go rfl ?_)
  refine Run.cs rfl (containsC_ct l ex e2 123 [.rp [.fn f [.rp cs jj]] 0] (fun x => !p x) hlen rfl (fun x hx => areAllC1_ct x e2 f cs jj (p x) (hf x hx))) rfl rfl ?_
  repeat (refine Run.go rfl ?_)
  refine Run.ret hg rfl ?_
  show bo (!l.any fun x => !p x) = _
  congr 2
  simp [List.all_eq_not_any_not]

noncomputable def X140 : Fx := ⟨Try.prog, tys, 140, Try.f140, [0, 1]⟩
theorem X140_ok : X140.Ok := ⟨Try.func140, tys_ok⟩
theorem indexI_ct (l : List Int) (ex : Bool) (f : Nat) (caps : List AV) (p : Int → Bool) (hlen : l.length ≤ 1048576) (hc : AV.freeL caps = true)
    (hf : ∀ x ∈ l, Ct Try.prog f ([i64 x] ++ caps) (bo (p x)) []) : Ct Try.prog 140 [.ro 1 ex (l.map i64), .fn f caps] (i64 (fi p l)) [] := by
  refine Ct.intro X140 X140_ok rfl (by kernel_rfl) rfl rfl fun g hg => ?_
  repeat (refine Run.step rfl ?_)
  refine Run.loop (fun j : Nat => ⟨[(0, .ro 1 ex (l.map i64)), (1, .fn f caps), (7, i64 l.length), (8, i64 j)], []⟩) (fun j => j ≤ l.length ∧ j ≤ l.findIdx p) (fun j => l.length - j) 0 ⟨by omega, by omega⟩ ?_ ?_
  · refine St.Le.mk' ⟨rfl, rfl, ?_, rfl, trivial⟩ trivial
    show i64 _ = _
    simp
  · rintro j ⟨hj1, hj2⟩ IH
    repeat (refine Run.step rfl ?_)
    refine Run.cond rfl (fun h => ?_) (fun h => ?_)
    · have hlt : j < l.length := by simpa using h
      repeat (refine Run.step rfl ?_)
      refine Run.val rfl rfl rfl (ValOk.idx (i64 l[j]) rfl rfl rfl rfl rfl (by omega) (by simp [hlt])) rfl ?_
      repeat (refine Run.step rfl ?_)
      refine Run.callp rfl rfl rfl rfl rfl rfl rfl hc rfl (hf l[j] (by simp)) (by decide) (by decide) ?_
      repeat (refine Run.step rfl ?_)
      refine Run.cond rfl (fun h => ?_) (fun h => ?_)
      · repeat (refine Run.step rfl ?_)
        refine Run.ret hg rfl ?_
        show i64 _ = _
        rw [fi_at hlt h hj2]
      · repeat (refine Run.step rfl ?_)
        refine Run.of (IH (j + 1) ⟨by omega, fi_next hlt h hj2⟩ (by omega)) ⟨rfl, rfl, rfl, ?_, trivial⟩ trivial
        show i64 _ = _
        rw [wrap_i64 (by omega) (by omega)]
        rfl
    · repeat (refine Run.step rfl ?_)
      have hj : j = l.length := by simp at h; omega
      refine Run.ret hg rfl ?_
      show i64 (-1) = _
      rw [fi_none (by omega)]

noncomputable def X124 : Fx := ⟨Try.prog, tys, 124, Try.f124, [0, 1]⟩
theorem X124_ok : X124.Ok := ⟨Try.func124, tys_ok⟩
theorem containsI_ct (l : List Int) (ex : Bool) (f : Nat) (caps : List AV) (p : Int → Bool) (hlen : l.length ≤ 1048576) (hc : AV.freeL caps = true)
    (hf : ∀ x ∈ l, Ct Try.prog f ([i64 x] ++ caps) (bo (p x)) []) : Ct Try.prog 124 [.ro 1 ex (l.map i64), .fn f caps] (bo (l.any p)) [] := by
  refine Ct.intro X124 X124_ok rfl (by kernel_rfl) rfl rfl fun g hg => ?_
  repeat (refine Run.go rfl ?_)
  refine Run.callp rfl rfl rfl rfl rfl rfl (by simp [AV.freeL, AV.free, hc]) rfl rfl (indexI_ct l ex f caps p hlen hc hf) (by decide) (by decide) ?_
  repeat (refine Run.go rfl ?_)
  refine Run.ret hg rfl ?_
  show bo _ = _
  rw [← fi_nonneg]

noncomputable def X125 : Fx := ⟨Try.prog, tys, 125, Try.f125, [0, 1]⟩
theorem X125_ok : X125.Ok := ⟨Try.func125, tys_ok⟩
theorem areAllI1_ct (a : Int) (f : Nat) (cs : List AV) (jj : Nat) (p : Bool) (hf : Ct Try.prog f [i64 a, .rp cs jj] (bo p) []) : Ct Try.prog 125 [i64 a, .rp [.fn f [.rp cs jj]] 0] (bo (!p)) [] := by
  refine Ct.intro X125 X125_ok rfl (by kernel_rfl) rfl rfl fun g hg => ?_
  repeat (refine Run.go rfl ?_)
  refine Run.cs rfl hf rfl rfl ?_
  repeat (refine Run.go rfl ?_)
  exact Run.ret hg rfl rfl

noncomputable def X75 : Fx := ⟨Try.prog, tys, 75, Try.f75, [0, 1]⟩
theorem X75_ok : X75.Ok := ⟨Try.func75, tys_ok⟩
theorem areAllI_ct (l : List Int) (ex : Bool) (f : Nat) (cs : List AV) (jj : Nat) (p : Int → Bool) (hlen : l.length ≤ 1048576) (hf : ∀ x ∈ l, Ct Try.prog f [i64 x, .rp cs jj] (bo (p x)) []) :
    Ct Try.prog 75 [.ro 1 ex (l.map i64), .fn f [.rp cs jj]] (bo (l.all p)) [] := by
  refine Ct.intro X75 X75_ok rfl (by kernel_rfl) rfl rfl fun g hg => ?_
  repeat (refine Run.go rfl ?_)
  refine Run.cs rfl (containsI_ct l ex 125 [.rp [.fn f [.rp cs jj]] 0] (fun x => !p x) hlen rfl (fun x hx => areAllI1_ct x f cs jj (p x) (hf x hx))) rfl rfl ?_
  repeat (refine Run.go rfl ?_)
  refine Run.ret hg rfl ?_
  show bo (!l.any fun x => !p x) = _
  congr 2
  simp [List.all_eq_not_any_not]

def nums (n : Nat) : List Int := (List.range n).map fun k : Nat => (k : Int)

noncomputable def X76 : Fx := ⟨Try.prog, tys, 76, Try.f76, [0]⟩
theorem X76_ok : X76.Ok := ⟨Try.func76, tys_ok⟩
theorem upTo_ct (n : Nat) (hn : n ≤ 1048576) : Ct Try.prog 76 [i64 n] (.own 1 false ((nums n).map i64)) [] := by
  refine Ct.intro X76 X76_ok rfl rfl rfl rfl fun g hg => ?_
  repeat (refine Run.go rfl ?_)
  refine Run.nilSlot 3 1 false rfl ?_
  refine Run.loop (fun j : Nat => ⟨[(3, .own 1 false ((nums j).map i64)), (5, i64 n), (6, i64 j)], []⟩) (fun j => j ≤ n) (fun j => n - j) 0 (by omega) ?_ ?_
  · exact St.Le.mk' ⟨rfl, rfl, rfl, trivial⟩ trivial
  · intro j hj IH
    repeat (refine Run.go rfl ?_)
    refine Run.cond rfl (fun h => ?_) (fun h => ?_)
    · have hlt : j < n := by simpa using h
      repeat (refine Run.go rfl ?_)
      refine Run.buildSlice [i64 j] rfl rfl rfl rfl rfl rfl rfl rfl rfl rfl rfl rfl rfl rfl ?_
      refine Run.appendo rfl rfl rfl rfl rfl rfl rfl rfl rfl rfl rfl rfl rfl rfl (by show (_ + 1) * 8 ≤ _; simp [nums]; omega) (by simp [capMax, nums]; omega) (by decide) rfl ?_
      repeat (refine Run.go rfl ?_)
      refine Run.of (IH (j + 1) (by omega) (by omega)) ⟨?_, rfl, ?_, trivial⟩ trivial
      · show AV.own _ _ _ = AV.own _ _ _
        simp [nums, List.range_succ]
      · show i64 _ = _
        rw [wrap_i64 (by omega) (by omega)]
        rfl
    · have hj' : j = n := by simp at h; omega
      subst hj'
      repeat (refine Run.go rfl ?_)
      refine Run.pack 2 rfl rfl rfl ?_
      exact Run.ret hg rfl rfl

def lentTo (w : Int) (c : Cp) : Bool := decide (c.st = 1) && decide (c.who = w)
def vD (d : Dk) : Bool := inr d.day 0 10000 && decide (d.cs.length ≤ 60) && d.cs.all (fun c => vC c d.day) && (nums 50).all fun w => decide ((idxs (lentTo w) d.cs).length ≤ 3)

noncomputable def X73 : Fx := ⟨Try.prog, tys, 73, Try.f73, [0, 1]⟩
theorem X73_ok : X73.Ok := ⟨Try.func73, tys_ok⟩
theorem validDesk1_ct (c : Cp) (d : Dk) (e1 e2 e3 : Bool) (hlen : c.q.length ≤ 1048576) (hr : cpRng c) : Ct Try.prog 73 [cpR e3 c, .rp (dkR e1 e2 d).cells 0] (bo (vC c d.day)) [] := by
  refine Ct.intro X73 X73_ok rfl rfl rfl rfl fun g hg => ?_
  repeat (refine Run.go rfl ?_)
  refine Run.cs rfl (isCopy_ct c e3 d.day hlen hr) rfl rfl ?_
  repeat (refine Run.go rfl ?_)
  exact Run.ret hg rfl rfl

noncomputable def X77 : Fx := ⟨Try.prog, tys, 77, Try.f77, [0, 1]⟩
theorem X77_ok : X77.Ok := ⟨Try.func77, tys_ok⟩
theorem validDesk2_ct (w : Int) (d : Dk) (e1 e2 : Bool) (hd : dkOk d) (hw : 0 ≤ w ∧ w < 50) : Ct Try.prog 77 [i64 w, .rp (dkR e1 e2 d).cells 0] (bo (decide ((idxs (lentTo w) d.cs).length ≤ 3))) [] := by
  refine Ct.intro X77 X77_ok rfl rfl rfl rfl fun g hg => ?_
  have e : IntKind.i8.wrap w = w := wrap_i8 (by omega) (by omega)
  repeat (refine Run.go rfl ?_)
  rw [e]
  refine Run.cs rfl (loans_ct d e1 e2 w hd) rfl (rf64 _) ?_
  refine Run.unpack 7 rfl rfl ?_
  repeat (refine Run.go rfl ?_)
  refine Run.ret hg rfl ?_
  show bo _ = _
  have e2 : lentTo w = fun c : Cp => decide (c.st = 1) && decide (c.who = w) := rfl
  rw [e2]
  simp
  omega

noncomputable def X32 : Fx := ⟨Try.prog, tys, 32, Try.f32, [0]⟩
theorem X32_ok : X32.Ok := ⟨Try.func32, tys_ok⟩
theorem implValidDesk_ct (d : Dk) (e1 e2 : Bool) (hd : dkOk d) (hr : dkRng d) : Ct Try.prog 32 [dkR e1 e2 d] (bo (vD d)) [] := by
  refine Ct.intro X32 X32_ok rfl rfl rfl rfl fun g hg => ?_
  repeat (refine Run.go rfl ?_)
  refine Run.cs rfl (within16_ct d.day 0 10000) rfl rfl ?_
  repeat (refine Run.go rfl ?_)
  refine Run.bool 7 rfl (fun h => ?_) (fun h1 => ?_)
  · repeat (refine Run.go rfl ?_)
    refine Run.cond rfl (fun _ => ?_) (fun h => by simp at h)
    repeat (refine Run.go rfl ?_)
    refine Run.ret hg rfl ?_
    show bo _ = _
    simp at h
    simp [vD, h]
  have h1 : inr d.day 0 10000 = true := by simpa using h1
  repeat (refine Run.go rfl ?_)
  refine Run.bool 13 rfl (fun h => ?_) (fun h2 => ?_)
  · repeat (refine Run.go rfl ?_)
    refine Run.cond rfl (fun _ => ?_) (fun h => by simp at h)
    repeat (refine Run.go rfl ?_)
    refine Run.ret hg rfl ?_
    show bo _ = _
    have : ¬ d.cs.length ≤ 60 := by simp at h; omega
    simp [vD, this]
  have h2 : d.cs.length ≤ 60 := by simp at h2; omega
  repeat (refine Run.go rfl ?_)
  refine Run.cs rfl (areAllC_ct d.cs e1 e2 73 (dkR e1 e2 d).cells 0 (fun c => vC c d.day) hd.1 (fun c hc => validDesk1_ct c d e1 e2 e2 (hd.2 c hc) (hr.2 c hc))) rfl rfl ?_
  repeat (refine Run.go rfl ?_)
  refine Run.cond rfl (fun h => ?_) (fun h3 => ?_)
  · repeat (refine Run.go rfl ?_)
    refine Run.ret hg rfl ?_
    show bo _ = _
    have h : d.cs.all (fun c => vC c d.day) = false := by simpa using h
    simp only [vD, h, Bool.and_false, Bool.false_and]
  have h3 : d.cs.all (fun c => vC c d.day) = true := by simpa using h3
  repeat (refine Run.go rfl ?_)
  refine Run.cs rfl (upTo_ct 50 (by omega)) rfl (rf64 _) ?_
  repeat (refine Run.go rfl ?_)
  refine Run.cs rfl (areAllI_ct (nums 50) false 77 (dkR e1 e2 d).cells 0 (fun w => decide ((idxs (lentTo w) d.cs).length ≤ 3)) (by simp [nums]) (fun w hw => validDesk2_ct w d e1 e2 hd (by simp [nums] at hw; omega))) (by rw [frz64]; rfl) rfl ?_
  repeat (refine Run.go rfl ?_)
  refine Run.ret hg rfl ?_
  show bo _ = _
  simp only [vD, h1, h2, h3, decide_true, Bool.true_and]
end Go.Proofs.Ytgbiboepnibibaa
