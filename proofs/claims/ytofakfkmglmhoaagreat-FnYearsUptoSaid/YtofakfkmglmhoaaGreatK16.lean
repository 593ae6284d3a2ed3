/- Contracts of the program's functions, and what follows from them. -/
import Derived.Test.YtofakfkmglmhoaaGreatK13
import Derived.Test.YtofakfkmglmhoaaGreatK9
import Derived.Test.YtofakfkmglmhoaaGreatMF
import Derived.Test.YtofakfkmglmhoaaGreatMH
set_option linter.unusedVariables false
set_option maxRecDepth 100000
set_option linter.unusedSimpArgs false
namespace Go.Proofs.YtofakfkmglmhoaaGreat
open Go Go.Av

/-! Rows of places: the program's and the reference's functions. -/

theorem Run.storeb {X : Fx} {g : Gx} {st st' : St} {k : List Item} {ops : Array Oper} {i : Nat} {rest : List Nat} {o : Oper} (ho : ops[i]? = some o) (hg : guardOf ops st o = some true) (hs : stStore X st o = some st')
    (h : Run X g (.inRegion ops rest :: k) st') : Run X g (.inRegion ops (i :: rest) :: k) st := by
  refine Run.op ho (fun a w hI => guardOf_ok hg a w hI) ?_ h
  intro hX a w hI
  obtain ⟨w', hr, hI', _⟩ := stStore_ok hs hX hI
  exact ⟨undef, w', .inr ⟨hr, rfl⟩, hI'⟩
theorem stStore_bp {X : Fx} {st : St} {o : Oper} {t : Nat} {p x : Operand} {ti : TI} {id : Av.Id} {q : Nat} {cs : List AV} {v : AV} (hd : o.dst = none) (hgd : o.guard = none) (hop : o.op = .store t p x) (hT : X.T t = some ti)
    (hp : st.ev p = .bp id q) (hob : st.obj id = .box cs) (hv : st.ev x = v) (hok : v.okc = true) (hpl : v.pl = true) (hsz : v.cells.length = ti.sz) (hq : q + ti.sz ≤ cs.length) :
    stStore X st o = some (st.setObj id (.box (putAt cs q v.cells))) := by
  have e1 : Nat.beq v.cells.length ti.sz = true := by rw [hsz]; exact Nat.beq_refl _
  have e2 : Nat.ble (q + ti.sz) cs.length = true := Nat.ble_eq_true_of_le hq
  unfold stStore
  rw [hd, hgd, hop]
  simp only [hT, hp, hob, hv, hok, hpl, e1, e2, Bool.and_self, cond_true]

/-- What is known of a valid rack. -/
theorem VR.ok {n : Int} {l : List Pl} (h : VR n l) (hb : ∀ x ∈ l, bkRng x.b) : rkOk ⟨n, l⟩ ∧ vR ⟨n, l⟩ = true := by
  have hp : ∀ x ∈ l, plRng x := fun x hx => by
    obtain ⟨i, hi, rfl⟩ := List.getElem_of_mem hx
    exact ⟨(h.i16 hi).1, hb _ hx⟩
  have hn := h.hn
  have hl := h.len
  exact ⟨⟨⟨by show -32768 ≤ n ∧ n ≤ 32767; omega, by show l.length ≤ _; omega⟩, hp⟩, (vR_VR hp).2 h⟩
theorem VR.pl {n : Int} {l : List Pl} (h : VR n l) {x : Pl} (hx : x ∈ l) : 0 ≤ x.p ∧ x.p < n := by
  obtain ⟨i, hi, rfl⟩ := List.getElem_of_mem hx
  have := h.rng i hi
  rw [pa_get hi] at this
  exact this

noncomputable def X86 : Fx := ⟨Tryz.prog, tys, 86, Tryz.f86, [0, 1]⟩
theorem X86_ok : X86.Ok := ⟨Tryz.func86, tys_ok⟩
theorem longest_ct (l : List Pl) (N : Nat) (ex t : Bool) (h : VR (N : Nat) l) : Ct Tryz.prog 86 [rkR ex ⟨(N : Nat), l⟩, bo t] (.tup [i64 ((lg (tk l N) t N).1 : Nat), i64 ((lg (tk l N) t N).2.1 : Nat)]) [] := by
  have hn := h.hn
  have hl := h.len
  have hD : (tk l N).length = N := tk_len l N
  have cT := taken_ct ⟨(N : Nat), l⟩ ex N rfl (by omega) (by show l.length ≤ _; omega) fun x hx => h.pl hx
  generalize hDe : tk l N = D at *
  clear hDe
  have hml : (D.map bof).length = N := by rw [List.length_map, hD]
  refine Ct.intro X86 X86_ok rfl (by kernel_rfl) rfl rfl fun g hg => ?_
  repeat (refine Run.go rfl ?_)
  refine Run.cs rfl cT rfl (rfBo _) ?_
  refine Run.freeze (v' := .ro 1 true (D.map bof)) 12 rfl rfl (by show AV.ro 1 true (AV.frzL (D.map bof)) = _; rw [frzBo]) ?_
  repeat (refine Run.go rfl ?_)
  refine Run.loop (fun i : Nat => ⟨[(1, bo t), (6, i64 ((lg D t i).1 : Nat)), (7, i64 ((lg D t i).2.1 : Nat)), (8, i64 ((lg D t i).2.2 : Nat)), (12, .ro 1 true (D.map bof)), (13, i64 (N : Nat)), (14, i64 (i : Nat))], []⟩) (fun i => i ≤ N) (fun i => N - i) 0 (by omega) ?_ ?_
  · refine St.Le.mk' ⟨rfl, rfl, rfl, rfl, rfl, ?_, rfl, trivial⟩ trivial
    show i64 ((D.map bof).length : Nat) = _
    rw [hml]
  intro i hi IH
  have hok := lg_ok D t i
  repeat (refine Run.go rfl ?_)
  refine Run.cond rfl (fun h => ?_) (fun h => ?_)
  · have hlt : i < N := by have := of_decide_eq_true h; omega
    have hDi : i < D.length := by omega
    have hgd : D.getD i false = D[i] := by rw [List.getD_eq_getElem?_getD, List.getElem?_eq_getElem hDi]; rfl
    have hst : lg D t (i + 1) = if D[i] = t then
      (if (lg D t i).2.1 < (lg D t i).2.2 + 1 then (i - (lg D t i).2.2, (lg D t i).2.2 + 1, (lg D t i).2.2 + 1) else ((lg D t i).1, (lg D t i).2.1, (lg D t i).2.2 + 1)) else ((lg D t i).1, (lg D t i).2.1, 0) := by rw [lg, hgd]
    have hw := hok.wi
    have hfm := hok.fm
    have IH1 := IH (i + 1) (by omega) (by omega)
    generalize lg D t (i + 1) = Q2 at hst IH1
    generalize lg D t i = Q at *
    obtain ⟨f, m, w⟩ := Q
    simp only at *
    repeat (refine Run.go rfl ?_)
    refine Run.val rfl rfl rfl (ValOk.idx (m := (i : Nat)) (bof D[i]) rfl rfl rfl rfl rfl (by omega) (by rw [Int.toNat_natCast, List.getElem?_map, List.getElem?_eq_getElem hDi]; rfl)) rfl ?_
    repeat (refine Run.go rfl ?_)
    refine Run.cond rfl (fun h => ?_) (fun h => ?_)
    · have h : D[i] ≠ t := by simpa using h
      rw [if_neg h] at hst
      subst hst
      repeat (refine Run.go rfl ?_)
      refine Run.of IH1 ⟨rfl, rfl, rfl, rfl, rfl, rfl, ?_, trivial⟩ trivial
      show i64 _ = _
      rw [wrap_i64 (by omega) (by omega)]
      rfl
    · have h : D[i] = t := by simpa using h
      rw [if_pos h] at hst
      have e1 : IntKind.i64.wrap ((w : Nat) + 1) = ((w + 1 : Nat) : Int) := by rw [wrap_i64 (by omega) (by omega)]; rfl
      repeat (refine Run.go rfl ?_)
      rw [e1]
      refine Run.cond rfl (fun h2 => ?_) (fun h2 => ?_)
      · have h2 : m < w + 1 := by have := of_decide_eq_true h2; omega
        rw [if_pos h2] at hst
        subst hst
        repeat (refine Run.go rfl ?_)
        refine Run.of IH1 ⟨rfl, ?_, rfl, rfl, rfl, rfl, ?_, trivial⟩ trivial
        · show i64 (IntKind.i64.wrap (IntKind.i64.wrap ((i : Nat) + 1) - ((w + 1 : Nat) : Int))) = i64 ((i - w : Nat) : Int)
          rw [wrap_i64 (n := (i : Nat) + 1) (by omega) (by omega), wrap_i64 (by omega) (by omega)]
          congr 1
          omega
        · show i64 _ = _
          rw [wrap_i64 (by omega) (by omega)]
          rfl
      · have h2 : ¬ m < w + 1 := by have := of_decide_eq_false h2; omega
        rw [if_neg h2] at hst
        subst hst
        repeat (refine Run.go rfl ?_)
        refine Run.of IH1 ⟨rfl, rfl, rfl, rfl, rfl, rfl, ?_, trivial⟩ trivial
        show i64 _ = _
        rw [wrap_i64 (by omega) (by omega)]
        rfl
  · have hi2 : i = N := by have := of_decide_eq_false h; omega
    subst hi2
    repeat (refine Run.go rfl ?_)
    exact Run.ret hg rfl rfl

/-- The row that is told of a valid rack. -/
def rowV (l : List Pl) (N : Nat) (t : Bool) : Int × Int × Int := if (lg (tk l N) t N).2.1 = 0 then (0, 0, 6) else (((lg (tk l N) t N).1 : Nat), ((lg (tk l N) t N).2.1 : Nat), 0)
def row3 (x : Int × Int × Int) : AV := .tup [i64 x.1, i64 x.2.1, i64 x.2.2]

noncomputable def X54 : Fx := ⟨Tryz.prog, tys, 54, Tryz.f54, [0, 1]⟩
theorem X54_ok : X54.Ok := ⟨Tryz.func54, tys_ok⟩
theorem rkRow_ct (l : List Pl) (N : Nat) (ex t : Bool) (h : VR (N : Nat) l) (hb : ∀ x ∈ l, bkRng x.b) : Ct Tryz.prog 54 [rkR ex ⟨(N : Nat), l⟩, bo t] (row3 (rowV l N t)) [] := by
  have cV := implValidRack_ct ⟨(N : Nat), l⟩ ex (h.ok hb).1
  rw [(h.ok hb).2] at cV
  have cL := longest_ct l N ex t h
  unfold rowV
  generalize lg (tk l N) t N = Q at cL
  obtain ⟨f, m, w⟩ := Q
  simp only at cL ⊢
  refine Ct.intro X54 X54_ok rfl (by kernel_rfl) rfl rfl fun g hg => ?_
  repeat (refine Run.go rfl ?_)
  refine Run.cs rfl cV rfl rfl ?_
  repeat (refine Run.go rfl ?_)
  refine Run.cond rfl (fun h => by simp at h) (fun _ => ?_)
  repeat (refine Run.go rfl ?_)
  refine Run.cs rfl cL rfl rfl ?_
  repeat (refine Run.go rfl ?_)
  refine Run.cond rfl (fun h => ?_) (fun h => ?_)
  · have h : m = 0 := by simpa using h
    rw [if_pos h] at hg
    repeat (refine Run.go rfl ?_)
    exact Run.ret hg rfl rfl
  · have h : m ≠ 0 := by simpa using h
    rw [if_neg h] at hg
    repeat (refine Run.go rfl ?_)
    exact Run.ret hg rfl rfl

noncomputable def X17 : Fx := ⟨Tryz.prog, tys, 17, Tryz.f17, [0]⟩
theorem X17_ok : X17.Ok := ⟨Tryz.func17, tys_ok⟩
theorem implCrowdOf_ct (l : List Pl) (N : Nat) (ex : Bool) (h : VR (N : Nat) l) (hb : ∀ x ∈ l, bkRng x.b) : Ct Tryz.prog 17 [rkR ex ⟨(N : Nat), l⟩] (row3 (rowV l N true)) [] := by
  refine Ct.intro X17 X17_ok rfl (by kernel_rfl) rfl rfl fun g hg => ?_
  repeat (refine Run.go rfl ?_)
  refine Run.cs rfl (rkRow_ct l N ex true h hb) rfl rfl ?_
  repeat (refine Run.go rfl ?_)
  exact Run.ret hg rfl rfl

noncomputable def X19 : Fx := ⟨Tryz.prog, tys, 19, Tryz.f19, [0]⟩
theorem X19_ok : X19.Ok := ⟨Tryz.func19, tys_ok⟩
theorem implWidestGap_ct (l : List Pl) (N : Nat) (ex : Bool) (h : VR (N : Nat) l) (hb : ∀ x ∈ l, bkRng x.b) : Ct Tryz.prog 19 [rkR ex ⟨(N : Nat), l⟩] (row3 (rowV l N false)) [] := by
  refine Ct.intro X19 X19_ok rfl (by kernel_rfl) rfl rfl fun g hg => ?_
  repeat (refine Run.go rfl ?_)
  refine Run.cs rfl (rkRow_ct l N ex false h hb) rfl rfl ?_
  repeat (refine Run.go rfl ?_)
  exact Run.ret hg rfl rfl

noncomputable def X14 : Fx := ⟨Tryz.prog, tys, 14, Tryz.f14, [0]⟩
theorem X14_ok : X14.Ok := ⟨Tryz.func14, tys_ok⟩
theorem implBooksIn_ct (r : Rk) (ex : Bool) (h : VR r.pl r.bs) (hb : ∀ x ∈ r.bs, bkRng x.b) : Ct Tryz.prog 14 [rkR ex r] (.tup [.own 8 false ((pbs r.bs).map bkA), i64 0]) [] := by
  obtain ⟨n, l⟩ := r
  simp only at h hb
  have cV := implValidRack_ct ⟨n, l⟩ ex (h.ok hb).1
  rw [(h.ok hb).2] at cV
  have hl := h.len
  have hn := h.hn
  refine Ct.intro X14 X14_ok rfl (by kernel_rfl) rfl rfl fun g hg => ?_
  repeat (refine Run.go rfl ?_)
  refine Run.cs rfl cV rfl rfl ?_
  repeat (refine Run.go rfl ?_)
  refine Run.cond rfl (fun h => by simp at h) (fun _ => ?_)
  repeat (refine Run.go rfl ?_)
  refine Run.cs rfl (rkBooks_ct ⟨n, l⟩ ex (by show l.length ≤ _; omega)) rfl (rfB _) ?_
  repeat (refine Run.go rfl ?_)
  exact Run.ret hg rfl rfl

noncomputable def X21 : Fx := ⟨Tryz.prog, tys, 21, Tryz.f21, [0]⟩
theorem X21_ok : X21.Ok := ⟨Tryz.func21, tys_ok⟩
theorem implFreePlaces_ct (l : List Pl) (N : Nat) (ex : Bool) (h : VR (N : Nat) l) (hb : ∀ x ∈ l, bkRng x.b) : Ct Tryz.prog 21 [rkR ex ⟨(N : Nat), l⟩] (.tup [.own 1 false ((idxs (fun b => !b) (tk l N)).map i64), i64 0]) [] := by
  have hn := h.hn
  have hl := h.len
  have cV := implValidRack_ct ⟨(N : Nat), l⟩ ex (h.ok hb).1
  rw [(h.ok hb).2] at cV
  have hD : (tk l N).length = N := tk_len l N
  have cT := taken_ct ⟨(N : Nat), l⟩ ex N rfl (by omega) (by show l.length ≤ _; omega) fun x hx => h.pl hx
  generalize hDe : tk l N = D at *
  clear hDe
  have hml : (D.map bof).length = N := by rw [List.length_map, hD]
  refine Ct.intro X21 X21_ok rfl (by kernel_rfl) rfl rfl fun g hg => ?_
  repeat (refine Run.go rfl ?_)
  refine Run.cs rfl cV rfl rfl ?_
  repeat (refine Run.go rfl ?_)
  refine Run.cond rfl (fun h => by simp at h) (fun _ => ?_)
  repeat (refine Run.go rfl ?_)
  refine Run.cs rfl cT rfl (rfBo _) ?_
  refine Run.freeze (v' := .ro 1 true (D.map bof)) 11 rfl rfl (by show AV.ro 1 true (AV.frzL (D.map bof)) = _; rw [frzBo]) ?_
  repeat (refine Run.go rfl ?_)
  refine Run.nilSlot 4 1 false rfl ?_
  refine Run.loop (fun i : Nat => ⟨[(4, .own 1 false ((idxs (fun b => !b) (D.take i)).map i64)), (11, .ro 1 true (D.map bof)), (12, i64 (N : Nat)), (13, i64 (i : Nat))], []⟩) (fun i => i ≤ N) (fun i => N - i) 0 (by omega) ?_ ?_
  · refine St.Le.mk' ⟨rfl, rfl, ?_, rfl, trivial⟩ trivial
    show i64 ((D.map bof).length : Nat) = _
    rw [hml]
  intro i hi IH
  repeat (refine Run.go rfl ?_)
  refine Run.cond rfl (fun h => ?_) (fun h => ?_)
  · have hlt : i < N := by have := of_decide_eq_true h; omega
    have hDi : i < D.length := by omega
    have hst := idxs_step (p := fun b : Bool => !b) (l := D) hDi
    have hil := idxs_len (fun b : Bool => !b) (D.take i)
    rw [List.length_take] at hil
    repeat (refine Run.go rfl ?_)
    refine Run.val rfl rfl rfl (ValOk.idx (m := (i : Nat)) (bof D[i]) rfl rfl rfl rfl rfl (by omega) (by rw [Int.toNat_natCast, List.getElem?_map, List.getElem?_eq_getElem hDi]; rfl)) rfl ?_
    repeat (refine Run.go rfl ?_)
    refine Run.cond rfl (fun h => ?_) (fun h => ?_)
    · have h : (!D[i]) = true := h
      rw [if_pos h] at hst
      repeat (refine Run.go rfl ?_)
      refine Run.buildSlice [i64 (i : Nat)] rfl rfl rfl rfl rfl rfl rfl rfl rfl rfl rfl rfl rfl rfl ?_
      refine Run.appendo rfl rfl rfl rfl rfl rfl rfl rfl rfl rfl rfl rfl rfl rfl (by show (((idxs (fun b => !b) (D.take i)).map i64).length + 1) * 8 ≤ 140737488355328; rw [List.length_map]; omega) (by simp [capMax]; omega) (by decide) rfl ?_
      repeat (refine Run.go rfl ?_)
      refine Run.of (IH (i + 1) (by omega) (by omega)) ⟨?_, rfl, rfl, ?_, trivial⟩ trivial
      · show AV.own _ _ _ = AV.own _ _ _
        rw [hst, List.map_append]
        rfl
      · show i64 _ = _
        rw [wrap_i64 (by omega) (by omega)]
        rfl
    · have h : (!D[i]) = false := h
      rw [if_neg (by rw [h]; decide)] at hst
      repeat (refine Run.go rfl ?_)
      refine Run.of (IH (i + 1) (by omega) (by omega)) ⟨?_, rfl, rfl, ?_, trivial⟩ trivial
      · rw [hst]
        rfl
      · show i64 _ = _
        rw [wrap_i64 (by omega) (by omega)]
        rfl
  · have hi2 : i = D.length := by have := of_decide_eq_false h; omega
    rw [hi2, List.take_length]
    repeat (refine Run.go rfl ?_)
    refine Run.pack 2 rfl rfl (by simp) ?_
    exact Run.ret hg rfl rfl
end Go.Proofs.YtofakfkmglmhoaaGreat
