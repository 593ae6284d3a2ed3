/- Contracts of the program's functions, and what follows from them. -/
import Derived.Test.YtmeejegdgfkogaaGreatDoorK1
import Derived.Test.YtmeejegdgfkogaaGreatDoorME
set_option linter.unusedVariables false
set_option maxRecDepth 100000
set_option linter.unusedSimpArgs false
namespace Go.Proofs.YtmeejegdgfkogaaGreatDoor
open Go Go.Av

/-! Racks: valid ones; a book is taken out. -/

def plRng (x : Pl) : Prop := i16r x.p ∧ bkRng x.b
def rkOk (r : Rk) : Prop := (i16r r.pl ∧ r.bs.length ≤ 1048576) ∧ ∀ x ∈ r.bs, plRng x
def pps (l : List Pl) : List Int := l.map (·.p)
def pbs (l : List Pl) : List Bk := l.map (·.b)
def vPl (n : Int) (x : Pl) : Bool := inr x.p 0 (n - 1) && vB x.b
def vR (r : Rk) : Bool := inr r.pl 1 60 && rs (pps r.bs) && r.bs.all (vPl r.pl) && srt (pbs r.bs)
def rk0 : Rk := ⟨0, []⟩
theorem pps_map (l : List Pl) : pps l = l.map (·.p) := rfl
theorem pbs_len (l : List Pl) : (pbs l).length = l.length := List.length_map ..
theorem pps_len (l : List Pl) : (pps l).length = l.length := List.length_map ..

noncomputable def X37 : Fx := ⟨Tryz.prog, tys, 37, Tryz.f37, [0]⟩
theorem X37_ok : X37.Ok := ⟨Tryz.func37, tys_ok⟩
theorem place_ct (x : Pl) (h : i16r x.p) : Ct Tryz.prog 37 [plA x] (i64 x.p) [] := by
  have hw : IntKind.i64.wrap x.p = x.p := wrap_i64 (by unfold i16r at h; omega) (by unfold i16r at h; omega)
  refine Ct.intro X37 X37_ok rfl rfl rfl rfl fun g hg => ?_
  repeat (refine Run.go rfl ?_)
  refine Run.ret hg rfl ?_
  show i64 _ = _
  rw [hw]

noncomputable def X69 : Fx := ⟨Tryz.prog, tys, 69, Tryz.f69, [0]⟩
theorem X69_ok : X69.Ok := ⟨Tryz.func69, tys_ok⟩
theorem bookOf_ct (x : Pl) : Ct Tryz.prog 69 [plA x] (bkA x.b) [] := by
  refine Ct.intro X69 X69_ok rfl rfl rfl rfl fun g hg => ?_
  repeat (refine Run.go rfl ?_)
  exact Run.ret hg rfl rfl

noncomputable def X36 : Fx := ⟨Tryz.prog, tys, 36, Tryz.f36, [1]⟩
theorem X36_ok : X36.Ok := ⟨Tryz.func36, tys_ok⟩
theorem eachPI_ct (L : List Pl) (ex : Bool) (f : Nat) (F : Pl → Int) (hlen : L.length ≤ 1048576) (hf : ∀ x ∈ L, Ct Tryz.prog f [plA x] (i64 (F x)) []) : Ct Tryz.prog 36 [.ro 9 ex (L.map plA), .fn f []] (.own 1 false ((L.map F).map i64)) [] := by
  refine Ct.intro X36 X36_ok rfl (by kernel_rfl) rfl rfl fun g hg => ?_
  repeat (refine Run.go rfl ?_)
  refine Run.nilSlot 5 1 false rfl ?_
  refine Run.loop (fun j : Nat => ⟨[(1, .fn f []), (5, .own 1 false (((L.take j).map F).map i64)), (8, .ro 9 ex (L.map plA)), (9, i64 L.length), (10, i64 j)], []⟩) (fun j => j ≤ L.length) (fun j => L.length - j) 0 (by omega) ?_ ?_
  · refine St.Le.mk' ⟨rfl, rfl, rfl, ?_, rfl, trivial⟩ trivial
    show i64 _ = _
    simp
  intro j hj IH
  repeat (refine Run.go rfl ?_)
  refine Run.cond rfl (fun h => ?_) (fun h => ?_)
  · have hlt : j < L.length := by simpa using h
    repeat (refine Run.go rfl ?_)
    refine Run.val rfl rfl rfl (ValOk.idx (plA L[j]) rfl rfl rfl rfl rfl (by omega) (by simp [hlt])) rfl ?_
    repeat (refine Run.go rfl ?_)
    refine Run.cs rfl (hf L[j] (by simp)) rfl rfl ?_
    refine Run.buildSlice [i64 (F L[j])] rfl rfl rfl rfl rfl rfl rfl rfl rfl rfl rfl rfl rfl rfl ?_
    refine Run.appendo rfl rfl rfl rfl rfl rfl rfl rfl rfl rfl rfl rfl rfl rfl (by show (_ + 1) * 8 ≤ _; simp; omega) (by simp [capMax]; omega) (by decide) rfl ?_
    repeat (refine Run.go rfl ?_)
    refine Run.of (IH (j + 1) (by omega) (by omega)) ⟨rfl, ?_, rfl, rfl, ?_, trivial⟩ trivial
    · rw [List.take_succ_eq_append_getElem hlt, List.map_append, List.map_append]
      rfl
    · show i64 _ = _
      rw [wrap_i64 (by omega) (by omega)]
      rfl
  · have hj' : j = L.length := by simp at h; omega
    subst hj'
    repeat (refine Run.go rfl ?_)
    refine Run.pack 4 rfl rfl rfl ?_
    refine Run.ret hg rfl ?_
    rw [List.take_length]
    rfl

noncomputable def X68 : Fx := ⟨Tryz.prog, tys, 68, Tryz.f68, [1]⟩
theorem X68_ok : X68.Ok := ⟨Tryz.func68, tys_ok⟩
theorem eachPB_ct (L : List Pl) (ex : Bool) (f : Nat) (hlen : L.length ≤ 1048576) (hf : ∀ x ∈ L, Ct Tryz.prog f [plA x] (bkA x.b) []) : Ct Tryz.prog 68 [.ro 9 ex (L.map plA), .fn f []] (.own 8 false ((pbs L).map bkA)) [] := by
  refine Ct.intro X68 X68_ok rfl (by kernel_rfl) rfl rfl fun g hg => ?_
  repeat (refine Run.go rfl ?_)
  refine Run.nilSlot 5 8 false rfl ?_
  refine Run.loop (fun j : Nat => ⟨[(1, .fn f []), (5, .own 8 false ((pbs (L.take j)).map bkA)), (8, .ro 9 ex (L.map plA)), (9, i64 L.length), (10, i64 j)], []⟩) (fun j => j ≤ L.length) (fun j => L.length - j) 0 (by omega) ?_ ?_
  · refine St.Le.mk' ⟨rfl, rfl, rfl, ?_, rfl, trivial⟩ trivial
    show i64 _ = _
    simp
  intro j hj IH
  repeat (refine Run.go rfl ?_)
  refine Run.cond rfl (fun h => ?_) (fun h => ?_)
  · have hlt : j < L.length := by simpa using h
    have hpl : (pbs (L.take j)).length ≤ j := by rw [pbs_len]; simp; omega
    have hst : pbs (L.take (j + 1)) = pbs (L.take j) ++ [L[j].b] := by
      rw [pbs, List.take_succ_eq_append_getElem hlt, List.map_append]
      rfl
    generalize pbs (L.take j) = D at hpl hst
    repeat (refine Run.go rfl ?_)
    refine Run.val rfl rfl rfl (ValOk.idx (plA L[j]) rfl rfl rfl rfl rfl (by omega) (by simp [hlt])) rfl ?_
    repeat (refine Run.go rfl ?_)
    refine Run.cs rfl (hf L[j] (by simp)) rfl rfl ?_
    refine Run.buildSlice [bkA L[j].b] rfl rfl rfl rfl rfl rfl rfl rfl rfl rfl rfl rfl rfl rfl ?_
    refine Run.appendo rfl rfl rfl rfl rfl rfl rfl rfl rfl rfl rfl rfl rfl rfl (by show (_ + 1) * 14 ≤ _; simp; omega) (by simp [capMax]; omega) (by decide) rfl ?_
    repeat (refine Run.go rfl ?_)
    refine Run.of (IH (j + 1) (by omega) (by omega)) ⟨rfl, ?_, rfl, rfl, ?_, trivial⟩ trivial
    · rw [hst, List.map_append]
      rfl
    · show i64 _ = _
      rw [wrap_i64 (by omega) (by omega)]
      rfl
  · have hj' : j = L.length := by simp at h; omega
    subst hj'
    repeat (refine Run.go rfl ?_)
    refine Run.pack 4 rfl rfl rfl ?_
    refine Run.ret hg rfl ?_
    rw [List.take_length]
    rfl

noncomputable def X42 : Fx := ⟨Tryz.prog, tys, 42, Tryz.f42, [0]⟩
theorem X42_ok : X42.Ok := ⟨Tryz.func42, tys_ok⟩
theorem rkBooks_ct (r : Rk) (ex : Bool) (hlen : r.bs.length ≤ 1048576) : Ct Tryz.prog 42 [rkR ex r] (.own 8 false ((pbs r.bs).map bkA)) [] := by
  refine Ct.intro X42 X42_ok rfl rfl rfl rfl fun g hg => ?_
  repeat (refine Run.go rfl ?_)
  refine Run.cs rfl (eachPB_ct r.bs ex _ hlen fun x _ => bookOf_ct x) rfl (rfB _) ?_
  repeat (refine Run.go rfl ?_)
  exact Run.ret hg rfl rfl

noncomputable def X84 : Fx := ⟨Tryz.prog, tys, 84, Tryz.f84, [0, 1]⟩
theorem X84_ok : X84.Ok := ⟨Tryz.func84, tys_ok⟩
theorem indexP_ct (l : List Pl) (ex : Bool) (f : Nat) (caps : List AV) (p : Pl → Bool) (hlen : l.length ≤ 1048576) (hc : AV.freeL caps = true)
    (hf : ∀ x ∈ l, Ct Tryz.prog f ([plA x] ++ caps) (bo (p x)) []) : Ct Tryz.prog 84 [.ro 9 ex (l.map plA), .fn f caps] (i64 (fi p l)) [] := by
  refine Ct.intro X84 X84_ok rfl (by kernel_rfl) rfl rfl fun g hg => ?_
  repeat (refine Run.step rfl ?_)
  refine Run.loop (fun j : Nat => ⟨[(0, .ro 9 ex (l.map plA)), (1, .fn f caps), (7, i64 l.length), (8, i64 j)], []⟩) (fun j => j ≤ l.length ∧ j ≤ l.findIdx p) (fun j => l.length - j) 0 ⟨by omega, by omega⟩ ?_ ?_
  · refine St.Le.mk' ⟨rfl, rfl, ?_, rfl, trivial⟩ trivial
    show i64 _ = _
    simp
  · rintro j ⟨hj1, hj2⟩ IH
    repeat (refine Run.step rfl ?_)
    refine Run.cond rfl (fun h => ?_) (fun h => ?_)
    · have hlt : j < l.length := by simpa using h
      repeat (refine Run.step rfl ?_)
      refine Run.val rfl rfl rfl (ValOk.idx (plA l[j]) rfl rfl rfl rfl rfl (by omega) (by simp [hlt])) rfl ?_
      repeat (refine Run.step rfl ?_)
      refine Run.callp rfl rfl rfl rfl rfl rfl rfl hc rfl (hf l[j] (by simp)) (by decide) (by decide) ?_
      repeat (refine Run.step rfl ?_)
      refine Run.cond rfl (fun h => ?_) (fun h => ?_)
      · repeat (refine Run.step rfl ?_)
        refine Run.ret hg rfl ?_
        show i64 _ = _
        rw [fi_at hlt h hj2]
      · repeat (refine Run.step rfl ?_)
        refine Run.of (IH (j + 1) ⟨by omega, fi_next hlt h hj2⟩ (by omega)) ⟨rfl, rfl, rfl, ?_, trivial⟩ trivial
        show i64 _ = _
        rw [wrap_i64 (by omega) (by omega)]
        rfl
    · repeat (refine Run.step rfl ?_)
      have hj : j = l.length := by simp at h; omega
      refine Run.ret hg rfl ?_
      show i64 (-1) = _
      rw [fi_none (by omega)]

noncomputable def X62 : Fx := ⟨Tryz.prog, tys, 62, Tryz.f62, [0, 1]⟩
theorem X62_ok : X62.Ok := ⟨Tryz.func62, tys_ok⟩
theorem containsP_ct (l : List Pl) (ex : Bool) (f : Nat) (caps : List AV) (p : Pl → Bool) (hlen : l.length ≤ 1048576) (hc : AV.freeL caps = true)
    (hf : ∀ x ∈ l, Ct Tryz.prog f ([plA x] ++ caps) (bo (p x)) []) : Ct Tryz.prog 62 [.ro 9 ex (l.map plA), .fn f caps] (bo (l.any p)) [] := by
  refine Ct.intro X62 X62_ok rfl (by kernel_rfl) rfl rfl fun g hg => ?_
  repeat (refine Run.go rfl ?_)
  refine Run.callp rfl rfl rfl rfl rfl rfl (by simp [AV.freeL, AV.free, hc]) rfl rfl (indexP_ct l ex f caps p hlen hc hf) (by decide) (by decide) ?_
  repeat (refine Run.go rfl ?_)
  refine Run.ret hg rfl ?_
  show bo _ = _
  rw [← fi_nonneg]

noncomputable def X63 : Fx := ⟨Tryz.prog, tys, 63, Tryz.f63, [0, 1]⟩
theorem X63_ok : X63.Ok := ⟨Tryz.func63, tys_ok⟩
theorem areAllP1_ct (c : Pl) (f : Nat) (cs : List AV) (jj : Nat) (p : Bool) (hf : Ct Tryz.prog f [plA c, .rp cs jj] (bo p) []) : Ct Tryz.prog 63 [plA c, .rp [.fn f [.rp cs jj]] 0] (bo (!p)) [] := by
  refine Ct.intro X63 X63_ok rfl (by kernel_rfl) rfl rfl fun g hg => ?_
  repeat (refine Run.go rfl ?_)
  refine Run.cs rfl hf rfl rfl ?_
  repeat (refine Run.go rfl ?_)
  exact Run.ret hg rfl rfl

noncomputable def X38 : Fx := ⟨Tryz.prog, tys, 38, Tryz.f38, [0, 1]⟩
theorem X38_ok : X38.Ok := ⟨Tryz.func38, tys_ok⟩
theorem areAllP_ct (l : List Pl) (ex : Bool) (f : Nat) (cs : List AV) (jj : Nat) (p : Pl → Bool) (hlen : l.length ≤ 1048576) (hf : ∀ x ∈ l, Ct Tryz.prog f [plA x, .rp cs jj] (bo (p x)) []) :
    Ct Tryz.prog 38 [.ro 9 ex (l.map plA), .fn f [.rp cs jj]] (bo (l.all p)) [] := by
  refine Ct.intro X38 X38_ok rfl (by kernel_rfl) rfl rfl fun g hg => ?_
  repeat (refine Run.go rfl ?_)
  refine Run.cs rfl (containsP_ct l ex 63 [.rp [.fn f [.rp cs jj]] 0] (fun x => !p x) hlen rfl (fun x hx => areAllP1_ct x f cs jj (p x) (hf x hx))) rfl rfl ?_
  repeat (refine Run.go rfl ?_)
  refine Run.ret hg rfl ?_
  show bo (!l.any fun x => !p x) = _
  congr 2
  simp [List.all_eq_not_any_not]

noncomputable def X39 : Fx := ⟨Tryz.prog, tys, 39, Tryz.f39, [0, 1]⟩
theorem X39_ok : X39.Ok := ⟨Tryz.func39, tys_ok⟩
theorem validRack1_ct (x : Pl) (r : Rk) (ex : Bool) (hn : 1 ≤ r.pl ∧ r.pl ≤ 60) : Ct Tryz.prog 39 [plA x, .rp (rkR ex r).cells 0] (bo (vPl r.pl x)) [] := by
  have hw : IntKind.i16.wrap (r.pl - 1) = r.pl - 1 := wrap_i16 (by omega) (by omega)
  refine Ct.intro X39 X39_ok rfl (by kernel_rfl) rfl rfl fun g hg => ?_
  repeat (refine Run.go rfl ?_)
  refine Run.cs rfl (within16_ct x.p 0 (r.pl - 1)) (by show [i16 _, i16 _, i16 _] = _; rw [hw]) rfl ?_
  repeat (refine Run.go rfl ?_)
  refine Run.bool 10 rfl (fun h => ?_) (fun h => ?_)
  · repeat (refine Run.go rfl ?_)
    refine Run.cs rfl (validBook_ct x.b) rfl rfl ?_
    repeat (refine Run.go rfl ?_)
    refine Run.ret hg rfl ?_
    show bo _ = bo _
    rw [vPl, h, Bool.true_and]
  · repeat (refine Run.go rfl ?_)
    refine Run.ret hg rfl ?_
    show bo _ = bo _
    rw [vPl, h, Bool.false_and]

noncomputable def X18 : Fx := ⟨Tryz.prog, tys, 18, Tryz.f18, [0]⟩
theorem X18_ok : X18.Ok := ⟨Tryz.func18, tys_ok⟩
theorem implValidRack_ct (r : Rk) (ex : Bool) (hr : rkOk r) : Ct Tryz.prog 18 [rkR ex r] (bo (vR r)) [] := by
  have hlen := hr.1.2
  refine Ct.intro X18 X18_ok rfl (by kernel_rfl) rfl rfl fun g hg => ?_
  repeat (refine Run.go rfl ?_)
  refine Run.cs rfl (within16_ct r.pl 1 60) rfl rfl ?_
  repeat (refine Run.go rfl ?_)
  refine Run.bool 6 rfl (fun h1 => ?_) (fun h1 => ?_)
  · have hn : 1 ≤ r.pl ∧ r.pl ≤ 60 := by simpa [inr] using h1
    repeat (refine Run.go rfl ?_)
    refine Run.cs rfl (eachPI_ct r.bs ex _ (·.p) hlen fun x hx => place_ct x (hr.2 x hx).1) rfl (rf64 _) ?_
    repeat (refine Run.go rfl ?_)
    refine Run.cs rfl (rises_ct (pps r.bs) false (by rw [pps_len]; exact hlen)) (by rw [frz64]; rfl) rfl ?_
    repeat (refine Run.go rfl ?_)
    refine Run.bool 12 rfl (fun h2 => ?_) (fun h2 => ?_)
    · repeat (refine Run.go rfl ?_)
      refine Run.cs rfl (areAllP_ct r.bs ex _ (rkR ex r).cells 0 (vPl r.pl) hlen fun x _ => validRack1_ct x r ex hn) rfl rfl ?_
      repeat (refine Run.go rfl ?_)
      refine Run.bool 18 rfl (fun h3 => ?_) (fun h3 => ?_)
      · repeat (refine Run.go rfl ?_)
        refine Run.cs rfl (rkBooks_ct r ex hlen) rfl (rfB _) ?_
        repeat (refine Run.go rfl ?_)
        refine Run.cs rfl (isSorted_ct (pbs r.bs) false (by rw [pbs_len]; exact hlen)) (by rw [frzB]) rfl ?_
        repeat (refine Run.go rfl ?_)
        refine Run.ret hg rfl ?_
        show bo _ = bo _
        rw [vR, h1, h2, h3]
        rfl
      · repeat (refine Run.go rfl ?_)
        refine Run.ret hg rfl ?_
        show bo _ = bo _
        rw [vR, h3, Bool.and_false, Bool.false_and]
    · repeat (refine Run.go rfl ?_)
      refine Run.ret hg rfl ?_
      show bo _ = bo _
      rw [vR, h2, Bool.and_false, Bool.false_and, Bool.false_and]
  · repeat (refine Run.go rfl ?_)
    refine Run.ret hg rfl ?_
    show bo _ = bo _
    rw [vR, h1, Bool.false_and, Bool.false_and, Bool.false_and]

/-! Which places are taken. -/

theorem rfBo (l : List Bool) : AV.rfL (l.map bof) = true := rfL_map (fun _ => rfl) l

def tk (l : List Pl) (n : Nat) : List Bool := (List.range n).map fun i : Nat => l.any fun x => x.p == (i : Int)
theorem tk_len (l : List Pl) (n : Nat) : (tk l n).length = n := by simp [tk]
theorem tk_get {l : List Pl} {n i : Nat} (h : i < n) : (tk l n)[i]? = some (l.any fun x => x.p == (i : Int)) := by simp [tk, h]
theorem tk_step (l : List Pl) (x : Pl) (n i : Nat) (hi : i < n) (hx : x.p = (i : Int)) : (tk l n).set i true = tk (l ++ [x]) n := by
  refine List.ext_getElem? fun j => ?_
  rw [List.getElem?_set]
  by_cases hj : j < n
  · rw [tk_get hj, tk_get hj, List.any_append]
    by_cases e : i = j
    · subst e
      simp [tk_len, hi, hx]
    · rw [if_neg e]
      have : (x.p == (j : Int)) = false := by simp [hx]; omega
      simp [this]
  · rw [if_neg (by omega), List.getElem?_eq_none (by rw [tk_len]; omega), List.getElem?_eq_none (by rw [tk_len]; omega)]

theorem vR_pl {r : Rk} (h : vR r = true) : (1 ≤ r.pl ∧ r.pl ≤ 60) ∧ ∀ x ∈ r.bs, (0 ≤ x.p ∧ x.p < r.pl) ∧ vB x.b = true := by
  simp only [vR, Bool.and_eq_true, List.all_eq_true, vPl, inr, decide_eq_true_eq] at h
  refine ⟨h.1.1.1, fun x hx => ?_⟩
  have := h.1.2 x hx
  exact ⟨⟨this.1.1, by omega⟩, this.2⟩

def tkRes (r : Rk) (at' : Int) : Rk × Int := if vR r = true then (if inr at' 0 (r.pl - 1) = true then (if (r.bs.any fun x => x.p == at') = true then (⟨r.pl, r.bs.filter fun x => !(x.p == at')⟩, 0) else (rk0, 6)) else (rk0, 2)) else (rk0, 1)
def rkRes (r : Rk × Int) : AV := .tup [rkO false r.1, i64 r.2]

theorem lt_pl (L : List Pl) : (flatc (L.map plA)).all isLT = true := by
  induction L with
  | nil => rfl
  | cons x r ih =>
    rw [List.map_cons, show flatc (plA x :: r.map plA) = (plA x).cells ++ flatc (r.map plA) from rfl, List.all_append, ih]
    rfl

/-! The reference. -/

noncomputable def X11 : Fx := ⟨Tryz.prog, tys, 11, Tryz.f11, [0]⟩
theorem X11_ok : X11.Ok := ⟨Tryz.func11, tys_ok⟩
theorem l05Places_ct (n : Int) : Ct Tryz.prog 11 [i64 n] (bo (inr n 1 60)) [] := by
  refine Ct.intro X11 X11_ok rfl rfl rfl rfl fun g hg => ?_
  repeat (refine Run.go rfl ?_)
  refine Run.cs rfl (l00In_ct n 1 60) rfl rfl ?_
  repeat (refine Run.go rfl ?_)
  exact Run.ret hg rfl rfl

/-- What is wrong with the book j of a rack. -/
def bad (n : Int) (l : List Pl) (j : Nat) : Bool := !vPl n (l.getD j pl0) || (decide (0 < j) && (decide ((l.getD j pl0).p ≤ (l.getD (j - 1) pl0).p) || decide (uc (l.getD j pl0).b (l.getD (j - 1) pl0).b < 0)))
theorem getD_pl {l : List Pl} {j : Nat} (h : j < l.length) : l.getD j pl0 = l[j] := by simp [h]
theorem vR_bad (r : Rk) : vR r = (inr r.pl 1 60 && !(List.range r.bs.length).any (bad r.pl r.bs)) := by
  obtain ⟨n, l⟩ := r
  show (inr n 1 60 && rs (pps l) && l.all (vPl n) && srt (pbs l)) = _
  have key : (rs (pps l) && l.all (vPl n) && srt (pbs l)) = !(List.range l.length).any (bad n l) := by
    rw [Bool.eq_iff_iff]
    simp only [Bool.and_eq_true, Bool.not_eq_true', List.any_eq_false, List.mem_range, rs, srt, List.all_eq_true, pps_len, pbs_len]
    constructor
    · rintro ⟨⟨h1, h2⟩, h3⟩ j hj
      have hv : vPl n (l.getD j pl0) = true := by rw [getD_pl hj]; exact h2 _ (by simp)
      unfold bad
      rw [hv]
      simp only [Bool.not_true, Bool.false_or, Bool.and_eq_true, Bool.or_eq_true, decide_eq_true_eq, not_and, not_or]
      intro h0
      have a1 := h1 (j - 1) (by omega)
      have a2 := h3 (j - 1) (by omega)
      have e1 : j - 1 + 1 = j := by omega
      simp only [rsP, pps, decide_eq_true_eq, e1] at a1
      rw [ooo_at (by rw [pbs_len]; omega)] at a2
      simp only [decide_eq_true_eq, e1] at a2
      have g1 : (l.map (·.p)).getD j 0 = (l.getD j pl0).p := by rw [getD_pl hj]; simp [hj]
      have g2 : (l.map (·.p)).getD (j - 1) 0 = (l.getD (j - 1) pl0).p := by rw [getD_pl (by omega)]; simp [show j - 1 < l.length by omega]
      rw [g1, g2] at a1
      have g3 : (pbs l)[j]'(by rw [pbs_len]; exact hj) = (l.getD j pl0).b := by rw [getD_pl hj]; simp [pbs]
      have g4 : (pbs l)[j - 1]'(by rw [pbs_len]; omega) = (l.getD (j - 1) pl0).b := by rw [getD_pl (by omega)]; simp [pbs]
      rw [← g3, ← g4]
      exact ⟨by omega, a2⟩
    · intro h
      refine ⟨⟨fun j hj => ?_, fun x hx => ?_⟩, fun j hj => ?_⟩
      · have := h (j + 1) (by omega)
        simp only [bad, Bool.or_eq_true, Bool.and_eq_true, decide_eq_true_eq, not_or, not_and, Nat.add_sub_cancel] at this
        have a1 := (this.2 (by omega)).1
        rw [getD_pl (show j + 1 < l.length by omega), getD_pl (show j < l.length by omega)] at a1
        simp only [rsP, pps, decide_eq_true_eq]
        simp [show j + 1 < l.length by omega, show j < l.length by omega]
        omega
      · obtain ⟨j, hj, rfl⟩ := List.getElem_of_mem hx
        have := h j hj
        simp only [bad, Bool.or_eq_true, not_or, getD_pl hj] at this
        simpa using this.1
      · have := h (j + 1) (by omega)
        simp only [bad, Bool.or_eq_true, Bool.and_eq_true, decide_eq_true_eq, not_or, not_and, Nat.add_sub_cancel] at this
        have a1 := (this.2 (by omega)).2
        rw [getD_pl (show j + 1 < l.length by omega), getD_pl (show j < l.length by omega)] at a1
        rw [ooo_at (by rw [pbs_len]; omega)]
        simp only [decide_eq_true_eq]
        simpa [pbs] using a1
  rw [← key]
  cases inr n 1 60 <;> simp [Bool.and_assoc]

theorem l01BookAt_ct (x : Pl) (hr : bkRng x.b) : Ct Tryz.prog 24 [.rp (plA x).cells 1] (bo (vB x.b)) [] := Ct.norm (l01Book_ct x.b hr)
theorem l01UsualAt_ct (x y : Pl) (hx : bkRng x.b) (hy : bkRng y.b) : Ct Tryz.prog 25 [.rp (plA x).cells 1, .rp (plA y).cells 1] (i64 (uc x.b y.b)) [] := Ct.norm (l01Usual_ct x.b y.b hx hy)

noncomputable def X13 : Fx := ⟨Tryz.prog, tys, 13, Tryz.f13, [0]⟩
theorem X13_ok : X13.Ok := ⟨Tryz.func13, tys_ok⟩
theorem l05Ok_ct (r : Rk) (ex : Bool) (hr : rkOk r) : Ct Tryz.prog 13 [.rp (rkR ex r).cells 0] (bo (vR r)) [] := by
  have hlen := hr.1.2
  have hpr := hr.1.1
  unfold i16r at hpr
  have hw : IntKind.i64.wrap r.pl = r.pl := wrap_i64 (by omega) (by omega)
  have hw2 : IntKind.i64.wrap (r.pl - 1) = r.pl - 1 := wrap_i64 (by omega) (by omega)
  rw [vR_bad]
  refine Ct.intro X13 X13_ok rfl (by kernel_rfl) rfl rfl fun g hg => ?_
  repeat (refine Run.go rfl ?_)
  refine Run.cs rfl (l05Places_ct r.pl) (by show [i64 _] = _; rw [hw]) rfl ?_
  repeat (refine Run.go rfl ?_)
  refine Run.cond rfl (fun h => ?_) (fun h => ?_)
  · have h : inr r.pl 1 60 = false := by simpa using h
    repeat (refine Run.go rfl ?_)
    refine Run.ret hg rfl ?_
    rw [h]
    rfl
  have hn : inr r.pl 1 60 = true := by simpa using h
  repeat (refine Run.go rfl ?_)
  refine Run.loop (fun j : Nat => ⟨[(0, .rp (rkR ex r).cells 0), (3, i64 j)], []⟩) (fun j => j ≤ r.bs.length ∧ ∀ i, i < j → bad r.pl r.bs i = false) (fun j => r.bs.length - j) 0 ⟨by omega, fun i h => by omega⟩ ?_ ?_
  · exact St.Le.mk' ⟨rfl, rfl, trivial⟩ trivial
  rintro j ⟨hj, hall⟩ IH
  repeat (refine Run.go rfl ?_)
  refine Run.cond rfl (fun h => ?_) (fun h => ?_)
  · have hlt : j < r.bs.length := by simpa using h
    have hxr := hr.2 r.bs[j] (by simp)
    have hxp := hxr.1
    unfold i16r at hxp
    have hwp : IntKind.i64.wrap r.bs[j].p = r.bs[j].p := wrap_i64 (by omega) (by omega)
    have hbadT : bad r.pl r.bs j = true → (inr r.pl 1 60 && !(List.range r.bs.length).any (bad r.pl r.bs)) = false := by
      intro hb
      rw [List.any_eq_true.2 ⟨j, List.mem_range.2 hlt, hb⟩, Bool.not_true, Bool.and_false]
    repeat (refine Run.go rfl ?_)
    refine Run.val rfl rfl rfl (ValOk.idx (plA r.bs[j]) rfl rfl rfl rfl rfl (by omega) (by simp [hlt])) rfl ?_
    repeat (refine Run.go rfl ?_)
    refine Run.cs rfl (l00In_ct r.bs[j].p 0 (r.pl - 1)) (by show [i64 _, i64 _, i64 _] = _; rw [hwp, hw, hw2]) rfl ?_
    repeat (refine Run.go rfl ?_)
    refine Run.bool 39 rfl (fun h1 => ?_) (fun h1 => ?_)
    · have h1 : inr r.bs[j].p 0 (r.pl - 1) = false := by simpa using h1
      repeat (refine Run.go rfl ?_)
      refine Run.cond rfl (fun h => ?_) (fun h => by simp at h)
      repeat (refine Run.go rfl ?_)
      refine Run.ret hg rfl ?_
      rw [hbadT (by rw [bad, getD_pl hlt, vPl, h1]; rfl)]
      rfl
    have h1 : inr r.bs[j].p 0 (r.pl - 1) = true := by simpa using h1
    repeat (refine Run.go rfl ?_)
    refine Run.val rfl rfl rfl (ValOk.idx (plA r.bs[j]) rfl rfl rfl rfl rfl (by omega) (by simp [hlt])) rfl ?_
    repeat (refine Run.go rfl ?_)
    refine Run.cs rfl (l01BookAt_ct r.bs[j] hxr.2) rfl rfl ?_
    repeat (refine Run.go rfl ?_)
    refine Run.cond rfl (fun h => ?_) (fun h2 => ?_)
    · have h : vB r.bs[j].b = false := by simpa using h
      repeat (refine Run.go rfl ?_)
      refine Run.ret hg rfl ?_
      rw [hbadT (by rw [bad, getD_pl hlt, vPl, h1, h]; rfl)]
      rfl
    have h2 : vB r.bs[j].b = true := by simpa using h2
    have hvp : vPl r.pl r.bs[j] = true := by rw [vPl, h1, h2]; rfl
    repeat (refine Run.go rfl ?_)
    refine Run.drawS ⟨[(0, .rp (rkR ex r).cells 0), (3, i64 j), (84, bo (bad r.pl r.bs j))], []⟩ (by kernel_rfl) (by decide +kernel) ?_ ?_
    · repeat (refine Quiet.go rfl ?_)
      refine Quiet.bool 52 rfl (fun h0 => ?_) (fun h0 => ?_)
      · have h0 : 0 < j := by simpa using h0
        have hj1 : j - 1 < r.bs.length := by omega
        have hyr := hr.2 r.bs[j - 1] (by simp)
        have hyp := hyr.1
        unfold i16r at hyp
        have hwy : IntKind.i64.wrap r.bs[j - 1].p = r.bs[j - 1].p := wrap_i64 (by omega) (by omega)
        have hwj : IntKind.i64.wrap ((j : Int) - 1) = (j - 1 : Nat) := by rw [wrap_i64 (by omega) (by omega)]; omega
        have hbd : bad r.pl r.bs j = (decide (r.bs[j].p ≤ r.bs[j - 1].p) || decide (uc r.bs[j].b r.bs[j - 1].b < 0)) := by
          rw [bad, getD_pl hlt, getD_pl hj1, hvp, decide_eq_true h0]
          rfl
        rw [hbd]
        repeat (refine Quiet.go rfl ?_)
        refine Quiet.val rfl rfl (ValOk.idx (m := (j - 1 : Nat)) (plA r.bs[j - 1]) rfl rfl rfl rfl (by show i64 (IntKind.i64.wrap ((j : Int) - 1)) = _; rw [hwj]) (by omega) (by rw [Int.toNat_natCast, List.getElem?_map, List.getElem?_eq_getElem hj1]; rfl)) rfl ?_
        repeat (refine Quiet.go rfl ?_)
        refine Quiet.bool (b := decide (r.bs[j].p ≤ r.bs[j - 1].p)) 65 (by show bo (decide (IntKind.i64.wrap r.bs[j].p ≤ IntKind.i64.wrap r.bs[j - 1].p)) = _; rw [hwp, hwy]) (fun h3 => ?_) (fun h3 => ?_)
        · repeat (refine Quiet.go rfl ?_)
          rw [h3]
          exact Quiet.nil (St.Le.mk' ⟨rfl, rfl, rfl, trivial⟩ trivial)
        · repeat (refine Quiet.go rfl ?_)
          refine Quiet.val rfl rfl (ValOk.idx (plA r.bs[j]) rfl rfl rfl rfl rfl (by omega) (by simp [hlt])) rfl ?_
          repeat (refine Quiet.go rfl ?_)
          refine Quiet.val rfl rfl (ValOk.idx (m := (j - 1 : Nat)) (plA r.bs[j - 1]) rfl rfl rfl rfl (by show i64 (IntKind.i64.wrap ((j : Int) - 1)) = _; rw [hwj]) (by omega) (by rw [Int.toNat_natCast, List.getElem?_map, List.getElem?_eq_getElem hj1]; rfl)) rfl ?_
          repeat (refine Quiet.go rfl ?_)
          refine Quiet.cs rfl rfl rfl rfl rfl (l01UsualAt_ct r.bs[j] r.bs[j - 1] hxr.2 hyr.2) rfl rfl ?_
          repeat (refine Quiet.go rfl ?_)
          rw [h3]
          exact Quiet.nil (St.Le.mk' ⟨rfl, rfl, rfl, trivial⟩ trivial)
      · have h0 : j = 0 := by simp at h0; omega
        subst h0
        repeat (refine Quiet.go rfl ?_)
        refine Quiet.nil (St.Le.mk' ⟨rfl, rfl, ?_, trivial⟩ trivial)
        show bo false = bo _
        rw [bad, getD_pl hlt, hvp]
        rfl
    refine Run.cond rfl (fun h => ?_) (fun h => ?_)
    · repeat (refine Run.go rfl ?_)
      refine Run.ret hg rfl ?_
      rw [hbadT h]
      rfl
    · repeat (refine Run.go rfl ?_)
      refine Run.of (IH (j + 1) ⟨by omega, fun i hi => ?_⟩ (by omega)) ⟨rfl, ?_, trivial⟩ trivial
      · by_cases e : i = j
        · subst e; exact h
        · exact hall i (by omega)
      · show i64 _ = _
        rw [wrap_i64 (by omega) (by omega)]
        rfl
  · have hj' : j = r.bs.length := by simp at h; omega
    subst hj'
    repeat (refine Run.go rfl ?_)
    refine Run.ret hg rfl ?_
    have : (List.range r.bs.length).any (bad r.pl r.bs) = false := by
      rw [List.any_eq_false]
      intro i hi
      rw [hall i (List.mem_range.1 hi)]
      decide
    rw [hn, this]
    rfl

theorem filter_any {l : List Pl} {a : Int} (h : (l.any fun x => x.p == a) = false) : (l.filter fun x => !(x.p == a)) = l := by
  rw [List.filter_eq_self]
  intro x hx
  have := List.any_eq_false.1 h x hx
  simpa using this
theorem filter_lt {l : List Pl} {a : Int} (h : (l.any fun x => x.p == a) = true) : (l.filter fun x => !(x.p == a)).length < l.length := by
  induction l with
  | nil => simp at h
  | cons x r ih =>
    rw [List.any_cons] at h
    rw [List.filter_cons]
    cases hx : (x.p == a) with
    | true =>
      have := List.length_filter_le (fun x : Pl => !(x.p == a)) r
      simp only [Bool.not_true, Bool.false_eq_true, if_false, List.length_cons]
      omega
    | false =>
      rw [hx, Bool.false_or] at h
      have := ih h
      simp only [Bool.not_false, if_true, List.length_cons]
      omega

end Go.Proofs.YtmeejegdgfkogaaGreatDoor
