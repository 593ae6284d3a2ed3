/- Contracts of the program's functions, and what follows from them. -/
import Derived.Test.YtoeocaenflkajaaD9
set_option linter.unusedVariables false
namespace Go.Proofs.Ytoeocaenflkajaa
open Go Go.Av

/-! Valid desks, in the program. -/

noncomputable def X108 : Fx := ⟨Try.prog, tys, 108, Try.f108, [0, 1]⟩
theorem X108_ok : X108.Ok := ⟨Try.func108, tys_ok⟩
theorem indexC_ct (l : List Cp) (ex e2 : Bool) (f : Nat) (caps : List AV) (p : Cp → Bool) (hlen : l.length ≤ 1048576) (hc : AV.freeL caps = true)
    (hf : ∀ x ∈ l, Ct Try.prog f ([cpR e2 x] ++ caps) (bo (p x)) []) : Ct Try.prog 108 [.ro 5 ex (l.map (cpR e2)), .fn f caps] (i64 (fi p l)) [] := by
  refine Ct.intro X108 X108_ok rfl (by kernel_rfl) rfl rfl fun g hg => ?_
  repeat (refine Run.step rfl ?_)
  refine Run.loop (fun j : Nat => ⟨[(0, .ro 5 ex (l.map (cpR e2))), (1, .fn f caps), (7, i64 l.length), (8, i64 j)], []⟩) (fun j => j ≤ l.length ∧ j ≤ l.findIdx p) (fun j => l.length - j) 0 ⟨by omega, by omega⟩ ?_ ?_
  · refine St.Le.mk' ⟨rfl, rfl, ?_, rfl, trivial⟩ trivial
    show i64 _ = _
    simp
  · rintro j ⟨hj1, hj2⟩ IH
    repeat (refine Run.step rfl ?_)
    refine Run.cond rfl (fun h => ?_) (fun h => ?_)
    · have hlt : j < l.length := by simpa using h
      repeat (refine Run.step rfl ?_)
      refine Run.val rfl rfl rfl (ValOk.idx (cpR e2 l[j]) rfl rfl rfl rfl rfl (by omega) (by simp [hlt])) rfl ?_
      repeat (refine Run.step rfl ?_)
      refine Run.callp rfl rfl rfl rfl rfl rfl rfl hc rfl (hf l[j] (by simp)) (by decide) (by decide) ?_
      repeat (refine Run.step rfl ?_)
      refine Run.cond rfl (fun h => ?_) (fun h => ?_)
      · repeat (refine Run.step rfl ?_)
        refine Run.ret hg rfl ?_
        show i64 _ = _
        rw [fi_at hlt h hj2]
      · repeat (refine Run.step rfl ?_)
        refine Run.of (IH (j + 1) ⟨by omega, fi_next hlt h hj2⟩ (by omega)) ⟨rfl, rfl, rfl, ?_, trivial⟩ trivial
        show i64 _ = _
        rw [wrap_i64 (by omega) (by omega)]
        rfl
    · repeat (refine Run.step rfl ?_)
      have hj : j = l.length := by simp at h; omega
      refine Run.ret hg rfl ?_
      show i64 (-1) = _
      rw [fi_none (by omega)]

noncomputable def X93 : Fx := ⟨Try.prog, tys, 93, Try.f93, [0, 1]⟩
theorem X93_ok : X93.Ok := ⟨Try.func93, tys_ok⟩
theorem containsC_ct (l : List Cp) (ex e2 : Bool) (f : Nat) (caps : List AV) (p : Cp → Bool) (hlen : l.length ≤ 1048576) (hc : AV.freeL caps = true)
    (hf : ∀ x ∈ l, Ct Try.prog f ([cpR e2 x] ++ caps) (bo (p x)) []) : Ct Try.prog 93 [.ro 5 ex (l.map (cpR e2)), .fn f caps] (bo (l.any p)) [] := by
  refine Ct.intro X93 X93_ok rfl (by kernel_rfl) rfl rfl fun g hg => ?_
  repeat (refine Run.go rfl ?_)
  refine Run.callp rfl rfl rfl rfl rfl rfl (by simp [AV.freeL, AV.free, hc]) rfl rfl (indexC_ct l ex e2 f caps p hlen hc hf) (by decide) (by decide) ?_
  repeat (refine Run.go rfl ?_)
  refine Run.ret hg rfl ?_
  show bo _ = _
  rw [← fi_nonneg]

noncomputable def X94 : Fx := ⟨Try.prog, tys, 94, Try.f94, [0, 1]⟩
theorem X94_ok : X94.Ok := ⟨Try.func94, tys_ok⟩
theorem areAllC1_ct (c : Cp) (e2 : Bool) (f : Nat) (cs : List AV) (jj : Nat) (p : Bool) (hf : Ct Try.prog f [cpR e2 c, .rp cs jj] (bo p) []) : Ct Try.prog 94 [cpR e2 c, .rp [.fn f [.rp cs jj]] 0] (bo (!p)) [] := by
  refine Ct.intro X94 X94_ok rfl (by kernel_rfl) rfl rfl fun g hg => ?_
  repeat (refine Run.go rfl ?_)
  refine Run.cs rfl hf rfl rfl ?_
  repeat (refine Run.go rfl ?_)
  exact Run.ret hg rfl rfl

noncomputable def X60 : Fx := ⟨Try.prog, tys, 60, Try.f60, [0, 1]⟩
theorem X60_ok : X60.Ok := ⟨Try.func60, tys_ok⟩
theorem areAllC_ct (l : List Cp) (ex e2 : Bool) (f : Nat) (cs : List AV) (jj : Nat) (p : Cp → Bool) (hlen : l.length ≤ 1048576) (hf : ∀ x ∈ l, Ct Try.prog f [cpR e2 x, .rp cs jj] (bo (p x)) []) :
    Ct Try.prog 60 [.ro 5 ex (l.map (cpR e2)), .fn f [.rp cs jj]] (bo (l.all p)) [] := by
  refine Ct.intro X60 X60_ok rfl (by kernel_rfl) rfl rfl fun g hg => ?_
  repeat (refine Run.go rfl ?_)
  refine Run.cs rfl (containsC_ct l ex e2 94 [.rp [.fn f [.rp cs jj]] 0] (fun x => !p x) hlen rfl (fun x hx => areAllC1_ct x e2 f cs jj (p x) (hf x hx))) rfl rfl ?_
  repeat (refine Run.go rfl ?_)
  refine Run.ret hg rfl ?_
  show bo (!l.any fun x => !p x) = _
  congr 2
  simp [List.all_eq_not_any_not]

noncomputable def X109 : Fx := ⟨Try.prog, tys, 109, Try.f109, [0, 1]⟩
theorem X109_ok : X109.Ok := ⟨Try.func109, tys_ok⟩
theorem indexI_ct (l : List Int) (ex : Bool) (f : Nat) (caps : List AV) (p : Int → Bool) (hlen : l.length ≤ 1048576) (hc : AV.freeL caps = true)
    (hf : ∀ x ∈ l, Ct Try.prog f ([i64 x] ++ caps) (bo (p x)) []) : Ct Try.prog 109 [.ro 1 ex (l.map i64), .fn f caps] (i64 (fi p l)) [] := by
  refine Ct.intro X109 X109_ok rfl (by kernel_rfl) rfl rfl fun g hg => ?_
  repeat (refine Run.step rfl ?_)
  refine Run.loop (fun j : Nat => ⟨[(0, .ro 1 ex (l.map i64)), (1, .fn f caps), (7, i64 l.length), (8, i64 j)], []⟩) (fun j => j ≤ l.length ∧ j ≤ l.findIdx p) (fun j => l.length - j) 0 ⟨by omega, by omega⟩ ?_ ?_
  · refine St.Le.mk' ⟨rfl, rfl, ?_, rfl, trivial⟩ trivial
    show i64 _ = _
    simp
  · rintro j ⟨hj1, hj2⟩ IH
    repeat (refine Run.step rfl ?_)
    refine Run.cond rfl (fun h => ?_) (fun h => ?_)
    · have hlt : j < l.length := by simpa using h
      repeat (refine Run.step rfl ?_)
      refine Run.val rfl rfl rfl (ValOk.idx (i64 l[j]) rfl rfl rfl rfl rfl (by omega) (by simp [hlt])) rfl ?_
      repeat (refine Run.step rfl ?_)
      refine Run.callp rfl rfl rfl rfl rfl rfl rfl hc rfl (hf l[j] (by simp)) (by decide) (by decide) ?_
      repeat (refine Run.step rfl ?_)
      refine Run.cond rfl (fun h => ?_) (fun h => ?_)
      · repeat (refine Run.step rfl ?_)
        refine Run.ret hg rfl ?_
        show i64 _ = _
        rw [fi_at hlt h hj2]
      · repeat (refine Run.step rfl ?_)
        refine Run.of (IH (j + 1) ⟨by omega, fi_next hlt h hj2⟩ (by omega)) ⟨rfl, rfl, rfl, ?_, trivial⟩ trivial
        show i64 _ = _
        rw [wrap_i64 (by omega) (by omega)]
        rfl
    · repeat (refine Run.step rfl ?_)
      have hj : j = l.length := by simp at h; omega
      refine Run.ret hg rfl ?_
      show i64 (-1) = _
      rw [fi_none (by omega)]

noncomputable def X97 : Fx := ⟨Try.prog, tys, 97, Try.f97, [0, 1]⟩
theorem X97_ok : X97.Ok := ⟨Try.func97, tys_ok⟩
theorem containsI_ct (l : List Int) (ex : Bool) (f : Nat) (caps : List AV) (p : Int → Bool) (hlen : l.length ≤ 1048576) (hc : AV.freeL caps = true)
    (hf : ∀ x ∈ l, Ct Try.prog f ([i64 x] ++ caps) (bo (p x)) []) : Ct Try.prog 97 [.ro 1 ex (l.map i64), .fn f caps] (bo (l.any p)) [] := by
  refine Ct.intro X97 X97_ok rfl (by kernel_rfl) rfl rfl fun g hg => ?_
  repeat (refine Run.go rfl ?_)
  refine Run.callp rfl rfl rfl rfl rfl rfl (by simp [AV.freeL, AV.free, hc]) rfl rfl (indexI_ct l ex f caps p hlen hc hf) (by decide) (by decide) ?_
  repeat (refine Run.go rfl ?_)
  refine Run.ret hg rfl ?_
  show bo _ = _
  rw [← fi_nonneg]

noncomputable def X98 : Fx := ⟨Try.prog, tys, 98, Try.f98, [0, 1]⟩
theorem X98_ok : X98.Ok := ⟨Try.func98, tys_ok⟩
theorem areAllI1_ct (a : Int) (f : Nat) (cs : List AV) (jj : Nat) (p : Bool) (hf : Ct Try.prog f [i64 a, .rp cs jj] (bo p) []) : Ct Try.prog 98 [i64 a, .rp [.fn f [.rp cs jj]] 0] (bo (!p)) [] := by
  refine Ct.intro X98 X98_ok rfl (by kernel_rfl) rfl rfl fun g hg => ?_
  repeat (refine Run.go rfl ?_)
  refine Run.cs rfl hf rfl rfl ?_
  repeat (refine Run.go rfl ?_)
  exact Run.ret hg rfl rfl

noncomputable def X63 : Fx := ⟨Try.prog, tys, 63, Try.f63, [0, 1]⟩
theorem X63_ok : X63.Ok := ⟨Try.func63, tys_ok⟩
theorem areAllI_ct (l : List Int) (ex : Bool) (f : Nat) (cs : List AV) (jj : Nat) (p : Int → Bool) (hlen : l.length ≤ 1048576) (hf : ∀ x ∈ l, Ct Try.prog f [i64 x, .rp cs jj] (bo (p x)) []) :
    Ct Try.prog 63 [.ro 1 ex (l.map i64), .fn f [.rp cs jj]] (bo (l.all p)) [] := by
  refine Ct.intro X63 X63_ok rfl (by kernel_rfl) rfl rfl fun g hg => ?_
  repeat (refine Run.go rfl ?_)
  refine Run.cs rfl (containsI_ct l ex 98 [.rp [.fn f [.rp cs jj]] 0] (fun x => !p x) hlen rfl (fun x hx => areAllI1_ct x f cs jj (p x) (hf x hx))) rfl rfl ?_
  repeat (refine Run.go rfl ?_)
  refine Run.ret hg rfl ?_
  show bo (!l.any fun x => !p x) = _
  congr 2
  simp [List.all_eq_not_any_not]

def nums (n : Nat) : List Int := (List.range n).map fun k : Nat => (k : Int)

noncomputable def X64 : Fx := ⟨Try.prog, tys, 64, Try.f64, [0]⟩
theorem X64_ok : X64.Ok := ⟨Try.func64, tys_ok⟩
theorem upTo_ct (n : Nat) (hn : n ≤ 1048576) : Ct Try.prog 64 [i64 n] (.own 1 false ((nums n).map i64)) [] := by
  refine Ct.intro X64 X64_ok rfl rfl rfl rfl fun g hg => ?_
  repeat (refine Run.go rfl ?_)
  refine Run.nilSlot 3 1 false rfl ?_
  refine Run.loop (fun j : Nat => ⟨[(3, .own 1 false ((nums j).map i64)), (5, i64 n), (6, i64 j)], []⟩) (fun j => j ≤ n) (fun j => n - j) 0 (by omega) ?_ ?_
  · exact St.Le.mk' ⟨rfl, rfl, rfl, trivial⟩ trivial
  · intro j hj IH
    repeat (refine Run.go rfl ?_)
    refine Run.cond rfl (fun h => ?_) (fun h => ?_)
    · have hlt : j < n := by simpa using h
      repeat (refine Run.go rfl ?_)
      refine Run.buildSlice [i64 j] rfl rfl rfl rfl rfl rfl rfl rfl rfl rfl rfl rfl rfl rfl ?_
      refine Run.appendo rfl rfl rfl rfl rfl rfl rfl rfl rfl rfl rfl rfl rfl rfl (by show (_ + 1) * 8 ≤ _; simp [nums]; omega) (by simp [capMax, nums]; omega) (by decide) rfl ?_
      repeat (refine Run.go rfl ?_)
      refine Run.of (IH (j + 1) (by omega) (by omega)) ⟨?_, rfl, ?_, trivial⟩ trivial
      · show AV.own _ _ _ = AV.own _ _ _
        simp [nums, List.range_succ]
      · show i64 _ = _
        rw [wrap_i64 (by omega) (by omega)]
        rfl
    · have hj' : j = n := by simp at h; omega
      subst hj'
      repeat (refine Run.go rfl ?_)
      refine Run.pack 2 rfl rfl rfl ?_
      exact Run.ret hg rfl rfl

def lentTo (w : Int) (c : Cp) : Bool := decide (c.st = 1) && decide (c.who = w)
def vD (d : Dk) : Bool := inr d.day 0 10000 && decide (d.cs.length ≤ 60) && d.cs.all (fun c => vC c d.day) && (nums 50).all fun w => decide ((idxs (lentTo w) d.cs).length ≤ 3)

noncomputable def X61 : Fx := ⟨Try.prog, tys, 61, Try.f61, [0, 1]⟩
theorem X61_ok : X61.Ok := ⟨Try.func61, tys_ok⟩
theorem validDesk1_ct (c : Cp) (d : Dk) (e1 e2 e3 : Bool) (hlen : c.q.length ≤ 1048576) (hr : cpRng c) : Ct Try.prog 61 [cpR e3 c, .rp (dkR e1 e2 d).cells 0] (bo (vC c d.day)) [] := by
  refine Ct.intro X61 X61_ok rfl rfl rfl rfl fun g hg => ?_
  repeat (refine Run.go rfl ?_)
  refine Run.cs rfl (isCopy_ct c e3 d.day hlen hr) rfl rfl ?_
  repeat (refine Run.go rfl ?_)
  exact Run.ret hg rfl rfl

noncomputable def X65 : Fx := ⟨Try.prog, tys, 65, Try.f65, [0, 1]⟩
theorem X65_ok : X65.Ok := ⟨Try.func65, tys_ok⟩
theorem validDesk2_ct (w : Int) (d : Dk) (e1 e2 : Bool) (hd : dkOk d) (hw : 0 ≤ w ∧ w < 50) : Ct Try.prog 65 [i64 w, .rp (dkR e1 e2 d).cells 0] (bo (decide ((idxs (lentTo w) d.cs).length ≤ 3))) [] := by
  refine Ct.intro X65 X65_ok rfl rfl rfl rfl fun g hg => ?_
  have e : IntKind.i8.wrap w = w := wrap_i8 (by omega) (by omega)
  repeat (refine Run.go rfl ?_)
  rw [e]
  refine Run.cs rfl (loans_ct d e1 e2 w hd) rfl (rf64 _) ?_
  refine Run.unpack 7 rfl rfl ?_
  repeat (refine Run.go rfl ?_)
  refine Run.ret hg rfl ?_
  show bo _ = _
  have e2 : lentTo w = fun c : Cp => decide (c.st = 1) && decide (c.who = w) := rfl
  rw [e2]
  simp
  omega

noncomputable def X25 : Fx := ⟨Try.prog, tys, 25, Try.f25, [0]⟩
theorem X25_ok : X25.Ok := ⟨Try.func25, tys_ok⟩
theorem implValidDesk_ct (d : Dk) (e1 e2 : Bool) (hd : dkOk d) (hr : dkRng d) : Ct Try.prog 25 [dkR e1 e2 d] (bo (vD d)) [] := by
  refine Ct.intro X25 X25_ok rfl rfl rfl rfl fun g hg => ?_
  repeat (refine Run.go rfl ?_)
  refine Run.cs rfl (within16_ct d.day 0 10000) rfl rfl ?_
  repeat (refine Run.go rfl ?_)
  refine Run.bool 7 rfl (fun h => ?_) (fun h1 => ?_)
  · repeat (refine Run.go rfl ?_)
    refine Run.cond rfl (fun _ => ?_) (fun h => by simp at h)
    repeat (refine Run.go rfl ?_)
    refine Run.ret hg rfl ?_
    show bo _ = _
    simp at h
    simp [vD, h]
  have h1 : inr d.day 0 10000 = true := by simpa using h1
  repeat (refine Run.go rfl ?_)
  refine Run.bool 13 rfl (fun h => ?_) (fun h2 => ?_)
  · repeat (refine Run.go rfl ?_)
    refine Run.cond rfl (fun _ => ?_) (fun h => by simp at h)
    repeat (refine Run.go rfl ?_)
    refine Run.ret hg rfl ?_
    show bo _ = _
    have : ¬ d.cs.length ≤ 60 := by simp at h; omega
    simp [vD, this]
  have h2 : d.cs.length ≤ 60 := by simp at h2; omega
  repeat (refine Run.go rfl ?_)
  refine Run.cs rfl (areAllC_ct d.cs e1 e2 61 (dkR e1 e2 d).cells 0 (fun c => vC c d.day) hd.1 (fun c hc => validDesk1_ct c d e1 e2 e2 (hd.2 c hc) (hr.2 c hc))) rfl rfl ?_
  repeat (refine Run.go rfl ?_)
  refine Run.cond rfl (fun h => ?_) (fun h3 => ?_)
  · repeat (refine Run.go rfl ?_)
    refine Run.ret hg rfl ?_
    show bo _ = _
    have h : d.cs.all (fun c => vC c d.day) = false := by simpa using h
    simp only [vD, h, Bool.and_false, Bool.false_and]
  have h3 : d.cs.all (fun c => vC c d.day) = true := by simpa using h3
  repeat (refine Run.go rfl ?_)
  refine Run.cs rfl (upTo_ct 50 (by omega)) rfl (rf64 _) ?_
  repeat (refine Run.go rfl ?_)
  refine Run.cs rfl (areAllI_ct (nums 50) false 65 (dkR e1 e2 d).cells 0 (fun w => decide ((idxs (lentTo w) d.cs).length ≤ 3)) (by simp [nums]) (fun w hw => validDesk2_ct w d e1 e2 hd (by simp [nums] at hw; omega))) (by rw [frz64]; rfl) rfl ?_
  repeat (refine Run.go rfl ?_)
  refine Run.ret hg rfl ?_
  show bo _ = _
  simp only [vD, h1, h2, h3, decide_true, Bool.true_and]
end Go.Proofs.Ytoeocaenflkajaa
