/- Contracts of the program's functions, and what follows from them. -/
import Derived.Test.YtofakfkmglmhoaaGreatK5
set_option linter.unusedVariables false
set_option maxRecDepth 100000
set_option linter.unusedSimpArgs false
namespace Go.Proofs.YtofakfkmglmhoaaGreat
open Go Go.Av

/-! Racks that grow: the reference. -/

/-- Where a book belongs, looked for from behind. -/
def spl (L : List Bk) (b : Bk) : Nat → Nat
  | 0 => 0
  | k + 1 => if uc b (L.getD k bk0) < 0 then spl L b k else k + 1

noncomputable def X99 : Fx := ⟨Tryz.prog, tys, 99, Tryz.f99, [0, 1]⟩
theorem X99_ok : X99.Ok := ⟨Tryz.func99, tys_ok⟩
theorem l01Place_ct (L : List Bk) (ex : Bool) (b : Bk) (hL : ∀ x ∈ L, bkRng x) (hb : bkRng b) (hlen : L.length ≤ 1048576) : Ct Tryz.prog 99 [.ro 8 ex (L.map bkA), .rp (bkA b).cells 0] (i64 (spl L b L.length : Nat)) [] := by
  refine Ct.intro X99 X99_ok rfl (by kernel_rfl) rfl rfl fun g hg => ?_
  repeat (refine Run.go rfl ?_)
  refine Run.loop (fun j : Nat => ⟨[(0, .ro 8 ex (L.map bkA)), (1, .rp (bkA b).cells 0), (5, i64 ((L.length - j : Nat) : Int))], []⟩) (fun j => j ≤ L.length ∧ spl L b L.length = spl L b (L.length - j)) (fun j => L.length - j) 0 ⟨by omega, rfl⟩ ?_ ?_
  · refine St.Le.mk' ⟨rfl, rfl, ?_, trivial⟩ trivial
    show i64 ((L.map bkA).length : Nat) = i64 ((L.length - 0 : Nat) : Int)
    rw [List.length_map, Nat.sub_zero]
  rintro j ⟨hj, hsp⟩ IH
  repeat (refine Run.go rfl ?_)
  refine Run.bool 10 rfl (fun h => ?_) (fun h => ?_)
  · have h : 0 < L.length - j := by simp at h; omega
    obtain ⟨k, hk⟩ : ∃ k, L.length - j = k + 1 := ⟨L.length - j - 1, by omega⟩
    have hkl : k < L.length := by omega
    rw [hk, spl] at hsp
    have hw : IntKind.i64.wrap (((k + 1 : Nat) : Int) - 1) = (k : Nat) := by rw [wrap_i64 (by omega) (by omega)]; omega
    have hgk : L.getD k bk0 = L[k] := by simp [hkl]
    rw [hgk] at hsp
    rw [hk]
    repeat (refine Run.go rfl ?_)
    refine Run.val rfl rfl rfl (ValOk.idx (m := (k : Nat)) (bkA L[k]) rfl rfl rfl rfl (by show i64 (IntKind.i64.wrap (((k + 1 : Nat) : Int) - 1)) = _; rw [hw]) (by omega) (by rw [Int.toNat_natCast, List.getElem?_map, List.getElem?_eq_getElem hkl]; rfl)) rfl ?_
    repeat (refine Run.go rfl ?_)
    refine Run.cs rfl (l01Usual_ct b L[k] hb (hL _ (by simp))) rfl rfl ?_
    repeat (refine Run.go rfl ?_)
    refine Run.cond rfl (fun h2 => ?_) (fun h2 => ?_)
    · have h2 : uc b L[k] < 0 := by simpa using h2
      rw [if_pos h2] at hsp
      repeat (refine Run.go rfl ?_)
      refine Run.of (IH (j + 1) ⟨by omega, by rw [hsp, show L.length - (j + 1) = k by omega]⟩ (by omega)) ⟨rfl, rfl, ?_, trivial⟩ trivial
      show i64 (IntKind.i64.wrap (((k + 1 : Nat) : Int) - 1)) = i64 ((L.length - (j + 1) : Nat) : Int)
      rw [hw, show L.length - (j + 1) = k by omega]
    · have h2 : ¬ uc b L[k] < 0 := by simpa using h2
      rw [if_neg h2] at hsp
      repeat (refine Run.go rfl ?_)
      refine Run.ret hg rfl ?_
      rw [hsp]
      rfl
  · have h : L.length - j = 0 := by simp at h; omega
    rw [h] at hsp
    rw [h]
    repeat (refine Run.go rfl ?_)
    refine Run.cond rfl (fun h2 => by simp at h2) (fun h2 => ?_)
    repeat (refine Run.go rfl ?_)
    refine Run.ret hg rfl ?_
    rw [hsp]
    rfl

/-- Both ways of looking find the same. -/
theorem spl_idx {l : List Pl} {b : Bk} (hr : ∀ x ∈ l, bkRng x.b) (hb : bkRng b) (hso : ∀ i j, i < j → j < l.length → ky (ba l i) ≤ ky (ba l j)) : spl (pbs l) b l.length = idx l b := by
  obtain ⟨i1, i2⟩ := idx_spec hr hb
  have hk := idx_le l b
  have hgd : ∀ i, i < l.length → (pbs l).getD i bk0 = ba l i := fun i hi => by rw [ba_get hi]; simp [pbs, hi]
  have hur : ∀ i, i < l.length → (uc b (ba l i) < 0 ↔ ky b < ky (ba l i)) := fun i hi => (uc_ky hb (by rw [ba_get hi]; exact hr _ (by simp))).1
  have key : ∀ d, idx l b + d ≤ l.length → spl (pbs l) b (idx l b + d) = idx l b := by
    intro d
    induction d with
    | zero =>
      intro _
      rw [Nat.add_zero]
      cases hi : idx l b with
      | zero => rfl
      | succ k =>
        rw [spl, if_neg]
        have := i1 k (by omega)
        rw [hgd k (by omega), hur k (by omega)]
        omega
    | succ d ih =>
      intro hd
      rw [show idx l b + (d + 1) = (idx l b + d) + 1 by omega, spl, if_pos, ih (by omega)]
      rw [hgd _ (by omega), hur _ (by omega)]
      have := i2 (by omega)
      by_cases e : d = 0
      · subst e; exact this
      · have := hso (idx l b) (idx l b + d) (by omega) (by omega)
        omega
  have := key (l.length - idx l b) (by omega)
  rwa [show idx l b + (l.length - idx l b) = l.length by omega] at this

noncomputable def X41 : Fx := ⟨Tryz.prog, tys, 41, Tryz.f41, [0]⟩
theorem X41_ok : X41.Ok := ⟨Tryz.func41, tys_ok⟩
theorem l05Books_ct (r : Rk) (ex : Bool) (hlen : r.bs.length ≤ 1048576) : Ct Tryz.prog 41 [.rp (rkR ex r).cells 0] (.own 8 false ((pbs r.bs).map bkA)) [] := by
  refine Ct.intro X41 X41_ok rfl rfl rfl rfl fun g hg => ?_
  repeat (refine Run.go rfl ?_)
  refine Run.buildSlice [] rfl rfl rfl rfl rfl rfl rfl rfl rfl rfl rfl rfl rfl rfl ?_
  refine Run.loosen0 5 rfl ?_
  repeat (refine Run.go rfl ?_)
  refine Run.loop (fun j : Nat => ⟨[(0, .rp (rkR ex r).cells 0), (3, .own 8 false ((pbs (r.bs.take j)).map bkA)), (4, i64 (j : Nat))], []⟩) (fun j => j ≤ r.bs.length) (fun j => r.bs.length - j) 0 (by omega) ?_ ?_
  · exact St.Le.mk' ⟨rfl, rfl, rfl, trivial⟩ trivial
  intro j hj IH
  repeat (refine Run.go rfl ?_)
  refine Run.cond rfl (fun h => ?_) (fun h => ?_)
  · have hlt : j < r.bs.length := by simpa using h
    have hpl : (pbs (r.bs.take j)).length ≤ j := by rw [pbs_len]; simp; omega
    have hst : pbs (r.bs.take (j + 1)) = pbs (r.bs.take j) ++ [r.bs[j].b] := by
      rw [pbs, List.take_succ_eq_append_getElem hlt, List.map_append]
      rfl
    generalize pbs (r.bs.take j) = D at hpl hst
    repeat (refine Run.go rfl ?_)
    refine Run.val rfl rfl rfl (ValOk.idx (plA r.bs[j]) rfl rfl rfl rfl rfl (by omega) (by simp [hlt])) rfl ?_
    repeat (refine Run.go rfl ?_)
    refine Run.buildSlice [bkA r.bs[j].b] rfl rfl rfl rfl rfl rfl rfl rfl rfl rfl rfl rfl rfl rfl ?_
    refine Run.appendo rfl rfl rfl rfl rfl rfl rfl rfl rfl rfl rfl rfl rfl rfl (by show (_ + 1) * 14 ≤ _; simp; omega) (by simp [capMax]; omega) (by decide) rfl ?_
    repeat (refine Run.go rfl ?_)
    refine Run.of (IH (j + 1) (by omega) (by omega)) ⟨rfl, ?_, ?_, trivial⟩ trivial
    · rw [hst, List.map_append]
      rfl
    · show i64 _ = _
      rw [wrap_i64 (by omega) (by omega)]
      rfl
  · have hj' : j = r.bs.length := by simp at h; omega
    subst hj'
    rw [List.take_length] at *
    repeat (refine Run.go rfl ?_)
    refine Run.pack 2 rfl rfl rfl ?_
    exact Run.ret hg rfl rfl

noncomputable def X76 : Fx := ⟨Tryz.prog, tys, 76, Tryz.f76, [0, 1]⟩
theorem X76_ok : X76.Ok := ⟨Tryz.func76, tys_ok⟩
theorem l05Index_ct (r : Rk) (ex : Bool) (b : Bk) (h : VR r.pl r.bs) (hr : ∀ x ∈ r.bs, bkRng x.b) (hb : bkRng b) : Ct Tryz.prog 76 [.rp (rkR ex r).cells 0, .rp (bkA b).cells 0] (i64 (idx r.bs b : Nat)) [] := by
  have hlen : r.bs.length ≤ 1048576 := by have := h.len; have := h.hn; omega
  refine Ct.intro X76 X76_ok rfl (by kernel_rfl) rfl rfl fun g hg => ?_
  repeat (refine Run.go rfl ?_)
  refine Run.cs rfl (l05Books_ct r ex hlen) rfl (rfB _) ?_
  repeat (refine Run.go rfl ?_)
  refine Run.cs rfl (l01Place_ct (pbs r.bs) false b (fun x hx => by obtain ⟨y, hy, rfl⟩ := List.mem_map.1 hx; exact hr y hy) hb (by rw [pbs_len]; exact hlen)) (by rw [frzB]; rfl) rfl ?_
  repeat (refine Run.go rfl ?_)
  refine Run.ret hg rfl ?_
  rw [pbs_len, spl_idx hr hb h.so]
  rfl

noncomputable def X77 : Fx := ⟨Tryz.prog, tys, 77, Tryz.f77, [0, 1]⟩
theorem X77_ok : X77.Ok := ⟨Tryz.func77, tys_ok⟩
theorem l05Room_ct (r : Rk) (ex : Bool) (k : Nat) (h : VR r.pl r.bs) (hk : k ≤ r.bs.length) : Ct Tryz.prog 77 [.rp (rkR ex r).cells 0, i64 k] (.tup [i64 (fr r.bs k), i64 (rm r.pl r.bs k)]) [] := by
  obtain ⟨n, l⟩ := r
  simp only at h hk
  have hlen := h.len
  have hn := h.hn
  have hr := h.rm0 hk
  have hw : IntKind.i64.wrap n = n := wrap_i64 (by omega) (by omega)
  refine Ct.intro X77 X77_ok rfl (by kernel_rfl) rfl rfl fun g hg => ?_
  repeat (refine Run.go rfl ?_)
  refine Run.condJ ⟨[(0, .rp (rkR ex ⟨n, l⟩).cells 0), (1, i64 k), (6, i64 (fr l k)), (7, i64 n)], []⟩ rfl (fun h0 k' hN => ?_) (fun h0 k' hN => ?_) ?_
  · have h0 : 0 < k := by simpa using h0
    have hk1 : k - 1 < l.length := by omega
    have hp := h.i16 hk1
    have hkw : IntKind.i64.wrap ((k : Int) - 1) = (k - 1 : Nat) := by rw [wrap_i64 (by omega) (by omega)]; omega
    have hf : fr l k = l[k - 1].p + 1 := by rw [fr, if_pos h0, pa_get hk1]
    repeat (refine Run.go rfl ?_)
    refine Run.val rfl rfl rfl (ValOk.idx (m := (k - 1 : Nat)) (plA l[k - 1]) rfl rfl rfl rfl (by show i64 (IntKind.i64.wrap ((k : Int) - 1)) = _; rw [hkw]) (by omega) (by rw [Int.toNat_natCast, List.getElem?_map, List.getElem?_eq_getElem hk1]; rfl)) rfl ?_
    repeat (refine Run.go rfl ?_)
    refine Run.of hN ⟨rfl, rfl, ?_, ?_, trivial⟩ trivial
    · show i64 (IntKind.i64.wrap (IntKind.i64.wrap l[k - 1].p + 1)) = i64 _
      rw [hf, wrap_i64 (n := l[k - 1].p) (by omega) (by omega), wrap_i64 (by omega) (by omega)]
    · show i64 (IntKind.i64.wrap n) = i64 n
      rw [hw]
  · have h0 : k = 0 := by simp at h0; omega
    subst h0
    repeat (refine Run.go rfl ?_)
    refine Run.of hN ⟨rfl, rfl, rfl, ?_, trivial⟩ trivial
    show i64 (IntKind.i64.wrap n) = i64 n
    rw [hw]
  repeat (refine Run.go rfl ?_)
  refine Run.condJ ⟨[(6, i64 (fr l k)), (7, i64 (too n l k))], []⟩ rfl (fun h0 k' hN => ?_) (fun h0 k' hN => ?_) ?_
  · have h0 : k < l.length := by simpa using h0
    have hp := h.i16 h0
    repeat (refine Run.go rfl ?_)
    refine Run.val rfl rfl rfl (ValOk.idx (plA l[k]) rfl rfl rfl rfl rfl (by omega) (by simp [h0])) rfl ?_
    repeat (refine Run.go rfl ?_)
    refine Run.of hN ⟨rfl, ?_, trivial⟩ trivial
    show i64 (IntKind.i64.wrap l[k].p) = i64 (too n l k)
    rw [too, if_pos h0, pa_get h0, wrap_i64 (by omega) (by omega)]
  · have h0 : ¬ k < l.length := by simpa using h0
    repeat (refine Run.go rfl ?_)
    refine Run.of hN ⟨rfl, ?_, trivial⟩ trivial
    show i64 n = i64 (too n l k)
    rw [too, if_neg h0]
  repeat (refine Run.go rfl ?_)
  refine Run.ret hg rfl ?_
  show AV.tup [i64 _, i64 (IntKind.i64.wrap (too n l k - fr l k))] = AV.tup [i64 _, i64 (rm n l k)]
  have : rm n l k = too n l k - fr l k := rfl
  rw [wrap_i64 (by omega) (by omega), this]

/-- A loop whose ends come together in state S. -/
theorem Run.loopJ {X : Fx} {g : Gx} {st : St} {k : List Item} {c : Code} {it : Item} (S : St) (h : ∀ k', Nxt (X := X) (g := g) (K := k') S → Run X g (.code (.loop c) :: it :: k') st) (hk : Run X g k S) :
    Run X g (.code (.loop c) :: it :: k) st := h k hk

/-- One text behind another; the ends of the first come together in state S. -/
theorem Run.seqJ {X : Fx} {g : Gx} {st : St} {k : List Item} {x y : Code} (S : St) (h : ∀ k', Nxt (X := X) (g := g) (K := k') S → Run X g (.code x :: k') st) (hk : Run X g (.code y :: k) S) :
    Run X g (.code (.seq x y) :: k) st := Run.ctl rfl (h _ hk)

def oI (o : Option Nat) : Int := match o with | none => -1 | some c => (c : Int)

noncomputable def X78 : Fx := ⟨Tryz.prog, tys, 78, Tryz.f78, [0, 1]⟩
theorem X78_ok : X78.Ok := ⟨Tryz.func78, tys_ok⟩
theorem l05Sides_ct (r : Rk) (ex : Bool) (k : Nat) (h : VR r.pl r.bs) (hk : k ≤ r.bs.length) : Ct Tryz.prog 78 [.rp (rkR ex r).cells 0, i64 k] (.tup [i64 (oI (lw r.pl r.bs k)), i64 (oI (hg r.pl r.bs k))]) [] := by
  obtain ⟨n, l⟩ := r
  simp only at h hk
  have hlen := h.len
  have hn := h.hn
  refine Ct.intro X78 X78_ok rfl (by kernel_rfl) rfl rfl fun g hgg => ?_
  repeat (refine Run.go rfl ?_)
  refine Run.loopJ ⟨[(0, .rp (rkR ex ⟨n, l⟩).cells 0), (1, i64 k), (6, i64 (oI (lw n l k)))], []⟩ (fun k' hN => ?_) ?_
  · refine Run.loop (fun q : Nat × Option Nat => ⟨[(0, .rp (rkR ex ⟨n, l⟩).cells 0), (1, i64 k), (6, i64 (oI q.2)), (7, i64 ((k - q.1 : Nat) : Int))], []⟩)
      (fun q => q.1 ≤ k ∧ match q.2 with | none => lw n l k = (lw n l (k - q.1)).map (· + q.1) | some c => lw n l k = some c) (fun q => k - q.1) (0, none) ⟨by simp, ?_⟩ ?_ ?_
    · show lw n l k = (lw n l (k - 0)).map (· + 0)
      cases h : lw n l k <;> simp [h]
    · exact St.Le.mk' ⟨rfl, rfl, rfl, rfl, trivial⟩ trivial
    rintro ⟨j, o⟩ ⟨hj, ho⟩ IH
    simp only at hj ho IH
    repeat (refine Run.go rfl ?_)
    refine Run.bool 17 rfl (fun h0 => ?_) (fun h0 => ?_)
    · have h0 : 0 < k - j := by simp at h0; omega
      cases o with
      | some c =>
        repeat (refine Run.go rfl ?_)
        refine Run.cond rfl (fun h1 => ?_) (fun h1 => ?_)
        · have h1 : (c : Int) < 0 := of_decide_eq_true h1
          omega
        repeat (refine Run.go rfl ?_)
        refine Run.of hN ⟨rfl, rfl, ?_, trivial⟩ trivial
        rw [ho]
        rfl
      | none =>
        simp only at ho
        obtain ⟨m, hm⟩ : ∃ m, k - j = m + 1 := ⟨k - j - 1, by omega⟩
        have hw : IntKind.i64.wrap (((k - j : Nat) : Int) - 1) = (m : Nat) := by rw [wrap_i64 (by omega) (by omega)]; omega
        have hlw : lw n l (m + 1) = if 0 < rm n l m then some 1 else (lw n l m).map (· + 1) := rfl
        rw [hm, hlw] at ho
        repeat (refine Run.go rfl ?_)
        refine Run.cond rfl (fun h1 => ?_) (fun h1 => by cases h1)
        repeat (refine Run.go rfl ?_)
        refine Run.cs rfl (l05Room_ct ⟨n, l⟩ ex m h (by show m ≤ l.length; omega)) (by show [_, i64 (IntKind.i64.wrap (((k - j : Nat) : Int) - 1))] = _; rw [hw]; rfl) rfl ?_
        repeat (refine Run.go rfl ?_)
        refine Run.cond rfl (fun h2 => ?_) (fun h2 => ?_)
        · have h2 : 0 < rm n l m := by simpa using h2
          rw [if_pos h2] at ho
          repeat (refine Run.go rfl ?_)
          refine Run.of (IH (j + 1, some (j + 1)) ⟨by show j + 1 ≤ k; omega, by show lw n l k = some (j + 1); rw [ho]; simp; omega⟩ (by show k - (j + 1) < k - j; omega)) ⟨rfl, rfl, ?_, ?_, trivial⟩ trivial
          · show i64 (IntKind.i64.wrap (IntKind.i64.wrap ((k : Int) - (k - j : Nat)) + 1)) = i64 ((j + 1 : Nat) : Int)
            rw [wrap_i64 (n := (k : Int) - (k - j : Nat)) (by omega) (by omega), wrap_i64 (by omega) (by omega), show (k : Int) - (k - j : Nat) + 1 = (j + 1 : Nat) by omega]
          · show i64 (IntKind.i64.wrap (((k - j : Nat) : Int) - 1)) = i64 ((k - (j + 1) : Nat) : Int)
            rw [hw, show k - (j + 1) = m by omega]
        · have h2 : ¬ 0 < rm n l m := by simpa using h2
          rw [if_neg h2] at ho
          repeat (refine Run.go rfl ?_)
          refine Run.of (IH (j + 1, none) ⟨by show j + 1 ≤ k; omega, ?_⟩ (by show k - (j + 1) < k - j; omega)) ⟨rfl, rfl, rfl, ?_, trivial⟩ trivial
          · show lw n l k = (lw n l (k - (j + 1))).map (· + (j + 1))
            rw [ho, show k - (j + 1) = m by omega]
            cases lw n l m with
            | none => rfl
            | some c => simp; omega
          · show i64 (IntKind.i64.wrap (((k - j : Nat) : Int) - 1)) = i64 ((k - (j + 1) : Nat) : Int)
            rw [hw, show k - (j + 1) = m by omega]
    · have hz : k - j = 0 := by simp at h0; omega
      repeat (refine Run.go rfl ?_)
      refine Run.cond rfl (fun h1 => by cases h1) (fun h1 => ?_)
      repeat (refine Run.go rfl ?_)
      refine Run.of hN ⟨rfl, rfl, ?_, trivial⟩ trivial
      cases o with
      | none => simp only at ho; rw [hz] at ho; rw [ho]; rfl
      | some c => rw [ho]; rfl
  repeat (refine Run.go rfl ?_)
  refine Run.loopJ ⟨[(6, i64 (oI (lw n l k))), (10, i64 (oI (hg n l k)))], []⟩ (fun k' hN => ?_) ?_
  · refine Run.loop (fun q : Nat × Option Nat => ⟨[(0, .rp (rkR ex ⟨n, l⟩).cells 0), (1, i64 k), (6, i64 (oI (lw n l k))), (10, i64 (oI q.2)), (11, i64 ((k + q.1 : Nat) : Int))], []⟩)
      (fun q => k + q.1 ≤ l.length ∧ match q.2 with | none => hg n l k = (hgF n l (l.length - (k + q.1)) (k + q.1)).map (· + q.1) | some c => hg n l k = some c) (fun q => l.length - q.1) (0, none) ⟨by simpa using hk, ?_⟩ ?_ ?_
    · show hg n l k = (hgF n l (l.length - (k + 0)) (k + 0)).map (· + 0)
      unfold hg
      cases h : hgF n l (l.length - k) k <;> simp [h]
    · exact St.Le.mk' ⟨rfl, rfl, rfl, rfl, rfl, trivial⟩ trivial
    rintro ⟨j, o⟩ ⟨hj, ho⟩ IH
    simp only at hj ho IH
    repeat (refine Run.go rfl ?_)
    refine Run.bool 44 rfl (fun h0 => ?_) (fun h0 => ?_)
    · have h0 : k + j < l.length := by simp at h0; omega
      cases o with
      | some c =>
        repeat (refine Run.go rfl ?_)
        refine Run.cond rfl (fun h1 => ?_) (fun h1 => ?_)
        · have h1 : (c : Int) < 0 := of_decide_eq_true h1
          omega
        repeat (refine Run.go rfl ?_)
        refine Run.of hN ⟨rfl, ?_, trivial⟩ trivial
        rw [ho]
        rfl
      | none =>
        simp only at ho
        obtain ⟨f, hf⟩ : ∃ f, l.length - (k + j) = f + 1 := ⟨l.length - (k + j) - 1, by omega⟩
        have hw : IntKind.i64.wrap (((k + j : Nat) : Int) + 1) = ((k + j + 1 : Nat) : Int) := by rw [wrap_i64 (by omega) (by omega)]; omega
        have hhg : hgF n l (f + 1) (k + j) = if 0 < rm n l (k + j + 1) then some 1 else (hgF n l f (k + j + 1)).map (· + 1) := rfl
        rw [hf, hhg] at ho
        repeat (refine Run.go rfl ?_)
        refine Run.cond rfl (fun h1 => ?_) (fun h1 => by cases h1)
        repeat (refine Run.go rfl ?_)
        refine Run.cs rfl (l05Room_ct ⟨n, l⟩ ex (k + j + 1) h (by show k + j + 1 ≤ l.length; omega)) (by show [_, i64 (IntKind.i64.wrap (((k + j : Nat) : Int) + 1))] = _; rw [hw]; rfl) rfl ?_
        repeat (refine Run.go rfl ?_)
        refine Run.cond rfl (fun h2 => ?_) (fun h2 => ?_)
        · have h2 : 0 < rm n l (k + j + 1) := by simpa using h2
          rw [if_pos h2] at ho
          repeat (refine Run.go rfl ?_)
          refine Run.of (IH (j + 1, some (j + 1)) ⟨by show k + (j + 1) ≤ l.length; omega, by show hg n l k = some (j + 1); rw [ho]; simp; omega⟩ (by show l.length - (j + 1) < l.length - j; omega)) ⟨rfl, rfl, rfl, ?_, ?_, trivial⟩ trivial
          · show i64 (IntKind.i64.wrap (IntKind.i64.wrap (((k + j : Nat) : Int) - k) + 1)) = i64 ((j + 1 : Nat) : Int)
            rw [wrap_i64 (n := ((k + j : Nat) : Int) - k) (by omega) (by omega), wrap_i64 (by omega) (by omega), show ((k + j : Nat) : Int) - k + 1 = (j + 1 : Nat) by omega]
          · show i64 (IntKind.i64.wrap (((k + j : Nat) : Int) + 1)) = i64 ((k + (j + 1) : Nat) : Int)
            rw [hw, Nat.add_assoc]
        · have h2 : ¬ 0 < rm n l (k + j + 1) := by simpa using h2
          rw [if_neg h2] at ho
          repeat (refine Run.go rfl ?_)
          refine Run.of (IH (j + 1, none) ⟨by show k + (j + 1) ≤ l.length; omega, ?_⟩ (by show l.length - (j + 1) < l.length - j; omega)) ⟨rfl, rfl, rfl, rfl, ?_, trivial⟩ trivial
          · show hg n l k = (hgF n l (l.length - (k + (j + 1))) (k + (j + 1))).map (· + (j + 1))
            rw [ho, show l.length - (k + (j + 1)) = f by omega, ← Nat.add_assoc]
            cases hgF n l f (k + j + 1) with
            | none => rfl
            | some c => simp; omega
          · show i64 (IntKind.i64.wrap (((k + j : Nat) : Int) + 1)) = i64 ((k + (j + 1) : Nat) : Int)
            rw [hw, Nat.add_assoc]
    · have hz : k + j = l.length := by simp at h0; omega
      repeat (refine Run.go rfl ?_)
      refine Run.cond rfl (fun h1 => by cases h1) (fun h1 => ?_)
      repeat (refine Run.go rfl ?_)
      refine Run.of hN ⟨rfl, ?_, trivial⟩ trivial
      cases o with
      | none => simp only at ho; rw [hz, Nat.sub_self] at ho; rw [ho]; rfl
      | some c => rw [ho]; rfl
  repeat (refine Run.go rfl ?_)
  exact Run.ret hgg rfl rfl

theorem full_iff {n : Int} {l : List Pl} (h : VR n l) {k : Nat} (hk : k ≤ l.length) : (rm n l k = 0 ∧ lw n l k = none ∧ hg n l k = none) ↔ (l.length : Int) = n := by
  constructor
  · rintro ⟨h0, h1, h2⟩
    exact h.full hk (by omega) h1 h2
  · intro hf
    have hall := h.full_rm hf
    exact ⟨hall k hk, full_lw hall k hk, full_hg hall _ k (by omega)⟩

def axA (n : Int) (l : List Pl) (b : Bk) : AV := if (l.length : Int) = n then .tup [rkO false rk0, i64 ((0 : Nat) : Int), bo false] else .tup [rkO false ⟨n, adL n l b⟩, i64 (adM n l b : Nat), bo true]

noncomputable def X39 : Fx := ⟨Tryz.prog, tys, 39, Tryz.f39, [0, 1]⟩
theorem X39_ok : X39.Ok := ⟨Tryz.func39, tys_ok⟩
theorem l05Added_ct (r : Rk) (ex : Bool) (b : Bk) (h : VR r.pl r.bs) (hr : ∀ x ∈ r.bs, bkRng x.b) (hb : bkRng b) :
    Ct Tryz.prog 39 [.rp (rkR ex r).cells 0, .rp (bkA b).cells 0] (axA r.pl r.bs b) [] := by
  obtain ⟨n, l⟩ := r
  simp only at h hr
  have hlen := h.len
  have hn := h.hn
  have hk := idx_le l b
  have hrm := h.rm0 hk
  have hlm : (l.map plA).length = l.length := List.length_map ..
  show Ct Tryz.prog _ _ (if (l.length : Int) = n then .tup [rkO false rk0, i64 ((0 : Nat) : Int), bo false] else .tup [rkO false ⟨n, ins (sh n l (idx l b)) (idx l b) (nat' n l (idx l b)) b⟩, i64 ((psh n l (idx l b)).1 : Nat), bo true]) []
  refine Ct.intro X39 X39_ok rfl (by kernel_rfl) rfl rfl fun g hgg => ?_
  repeat (refine Run.go rfl ?_)
  refine Run.cs rfl (l05Index_ct ⟨n, l⟩ ex b h hr hb) rfl rfl ?_
  repeat (refine Run.go rfl ?_)
  show Run _ _ _ _
  have hfi := full_iff h hk
  have hcs := psh_cases h hk
  have hpsh0 : ¬ 0 < rm n l (idx l b) → psh n l (idx l b) = match lw n l (idx l b), hg n l (idx l b) with
    | some c, some d => if c ≤ d then (c, true) else (d, false)
    | some c, none => (c, true)
    | none, some d => (d, false)
    | none, none => (l.length - idx l b, false) := fun h0 => by rw [psh, if_neg h0]; rfl
  generalize idx l b = k at *
  have hrn : rm n l k ≤ n := by unfold rm; omega
  refine Run.cs rfl (l05Room_ct ⟨n, l⟩ ex k h hk) rfl rfl ?_
  repeat (refine Run.go rfl ?_)
  refine Run.buildSlice [] rfl rfl rfl rfl rfl rfl rfl rfl rfl rfl rfl rfl rfl rfl ?_
  refine Run.loosen0 27 rfl ?_
  repeat (refine Run.go rfl ?_)
  refine Run.unpack 27 rfl rfl ?_
  refine Run.appendr (ys := l.map plA) rfl rfl rfl rfl rfl rfl rfl rfl rfl rfl rfl rfl rfl (one_pl _) (by show (0 + _) * 16 ≤ _; rw [hlm]; omega) (by rw [hlm]; simp [capMax]; omega) rfl ?_
  rw [List.nil_append]
  have hwr : IntKind.i64.wrap (rm n l k - 1) = rm n l k - 1 := wrap_i64 (by omega) (by omega)
  repeat (refine Run.go rfl ?_)
  by_cases hful : (l.length : Int) = n
  · obtain ⟨f1, f2, f3⟩ := hfi.2 hful
    rw [if_pos hful] at hgg
    refine Run.cond rfl (fun h1 => ?_) (fun h1 => ?_)
    · repeat (refine Run.go rfl ?_)
      refine Run.cs rfl (l05Sides_ct ⟨n, l⟩ ex k h hk) rfl rfl ?_
      simp only [f2, f3]
      repeat (refine Run.go rfl ?_)
      refine Run.cond rfl (fun h2 => ?_) (fun h2 => by cases h2)
      repeat (refine Run.go rfl ?_)
      refine Run.val rfl rfl rfl (ValOk.build rfl rfl rfl rfl rfl) rfl ?_
      repeat (refine Run.go rfl ?_)
      refine Run.nilBox (4, 0) 1 9 false rfl rfl ?_
      exact Run.ret hgg rfl rfl
    · have h1 : ¬ rm n l k = 0 := of_decide_eq_false h1
      omega
  rw [if_neg hful] at hgg
  have hlt : (l.length : Int) < n := by omega
  have hcs := hcs hlt
  have hnat : 0 ≤ nat' n l k ∧ nat' n l k < n := by
    unfold nat'
    rcases hcs with ⟨h0, hp⟩ | ⟨h0, c, hp, c1, c2, c3⟩ | ⟨h0, d, hp, d1, d2, d3⟩
    · rw [if_pos h0, Int.tdiv_eq_ediv_of_nonneg (by omega)]
      have htoo : fr l k + rm n l k = too n l k := by unfold rm; omega
      omega
    · rw [if_neg (by omega), hp, if_pos rfl]
      have hfk : fr l k = pa l (k - 1) + 1 := by rw [fr, if_pos (by omega)]
      have := h.rng (k - 1) (by omega)
      omega
    · rw [if_neg (by omega), hp]
      have htoo : too n l k = pa l k := by rw [too, if_pos (by omega)]
      have hfk : fr l k = too n l k := by unfold rm at h0; omega
      have := h.rng k (by omega)
      show 0 ≤ fr l k ∧ fr l k < n
      omega
  have hshl : (sh n l k).length = l.length := by
    unfold sh
    rcases hcs with ⟨h0, hp⟩ | ⟨h0, c, hp, c1, c2, c3⟩ | ⟨h0, d, hp, d1, d2, d3⟩
    · rw [if_pos h0]
    · rw [if_neg (by omega), hp, if_pos rfl]
      exact shf_len (by show k - c + c ≤ _; omega)
    · rw [if_neg (by omega), hp]
      exact shf_len d2
  refine Run.condJ ⟨[(0, .rp (rkR ex ⟨n, l⟩).cells 0), (1, .rp (bkA b).cells 0), (4, .bp (4, 0) 0), (7, i64 (k : Nat)), (10, .own 9 false ((sh n l k).map plA)), (11, i64 ((psh n l k).1 : Nat)), (12, i64 (nat' n l k))], [((4, 0), .box [i16 0, .lit (.slice none 0 0)])]⟩ rfl (fun h1 k' hN => ?_) (fun h1 k' hN => ?_) ?_
  · have h1 : rm n l k = 0 := of_decide_eq_true h1
    have hn0 : ¬ 0 < rm n l k := by omega
    have hp := hpsh0 hn0
    have key : (∃ c, lw n l k = some c ∧ psh n l k = (c, true) ∧ 1 ≤ c ∧ c ≤ k) ∨ (∃ d, hg n l k = some d ∧ psh n l k = (d, false) ∧ 1 ≤ d ∧ k + d ≤ l.length) := by
      cases hl : lw n l k with
      | none =>
        cases hh : hg n l k with
        | none => exact absurd (hfi.1 ⟨h1, hl, hh⟩) hful
        | some d => rw [hl, hh] at hp; have := hgF_some hh; exact .inr ⟨d, rfl, hp, by omega, by omega⟩
      | some c =>
        have := lw_some hl
        cases hh : hg n l k with
        | none => rw [hl, hh] at hp; exact .inl ⟨c, rfl, hp, by omega, by omega⟩
        | some d =>
          rw [hl, hh] at hp
          have := hgF_some hh
          by_cases e : c ≤ d
          · exact .inl ⟨c, rfl, by rw [hp]; exact if_pos e, by omega, by omega⟩
          · exact .inr ⟨d, rfl, by rw [hp]; exact if_neg e, by omega, by omega⟩
    refine Run.seqJ ⟨[(0, .rp (rkR ex ⟨n, l⟩).cells 0), (1, .rp (bkA b).cells 0), (4, .bp (4, 0) 0), (7, i64 (k : Nat)), (8, i64 (fr l k)), (10, .own 9 false (l.map plA)), (13, i64 (oI (lw n l k))), (14, i64 (oI (hg n l k)))], [((4, 0), .box [i16 0, .lit (.slice none 0 0)])]⟩ (fun k' hM => ?_) ?_
    · repeat (refine Run.go rfl ?_)
      refine Run.cs rfl (l05Sides_ct ⟨n, l⟩ ex k h hk) rfl rfl ?_
      repeat (refine Run.go rfl ?_)
      exact Run.of hM ⟨rfl, rfl, rfl, rfl, rfl, rfl, rfl, rfl, trivial⟩ ⟨rfl, trivial⟩
    refine Run.seqJ ⟨[(0, .rp (rkR ex ⟨n, l⟩).cells 0), (1, .rp (bkA b).cells 0), (4, .bp (4, 0) 0), (7, i64 (k : Nat)), (8, i64 (fr l k)), (10, .own 9 false (l.map plA)), (13, i64 (oI (lw n l k))), (14, i64 (oI (hg n l k)))], [((4, 0), .box [i16 0, .lit (.slice none 0 0)])]⟩ (fun k' hM => ?_) ?_
    · repeat (refine Run.go rfl ?_)
      refine Run.bool 48 rfl (fun h2 => ?_) (fun h2 => ?_)
      · have h2 : oI (lw n l k) < 0 := of_decide_eq_true h2
        repeat (refine Run.go rfl ?_)
        refine Run.cond rfl (fun h3 => ?_) (fun h3 => ?_)
        · have h3 : oI (hg n l k) < 0 := of_decide_eq_true h3
          rcases key with ⟨c, e, -⟩ | ⟨d, e, -⟩
          · rw [e] at h2; exact absurd h2 (by unfold oI; simp only; omega)
          · rw [e] at h3; exact absurd h3 (by unfold oI; simp only; omega)
        · repeat (refine Run.go rfl ?_)
          exact Run.of hM ⟨rfl, rfl, rfl, rfl, rfl, rfl, rfl, rfl, trivial⟩ ⟨rfl, trivial⟩
      · repeat (refine Run.go rfl ?_)
        refine Run.cond rfl (fun h3 => by cases h3) (fun h3 => ?_)
        repeat (refine Run.go rfl ?_)
        exact Run.of hM ⟨rfl, rfl, rfl, rfl, rfl, rfl, rfl, rfl, trivial⟩ ⟨rfl, trivial⟩
    refine Run.seqJ ⟨[(0, .rp (rkR ex ⟨n, l⟩).cells 0), (1, .rp (bkA b).cells 0), (4, .bp (4, 0) 0), (7, i64 (k : Nat)), (8, i64 (fr l k)), (10, .own 9 false (l.map plA)), (13, i64 (oI (lw n l k))), (14, i64 (oI (hg n l k))), (63, bo (psh n l k).2)], [((4, 0), .box [i16 0, .lit (.slice none 0 0)])]⟩ (fun k' hM => ?_) ?_
    · repeat (refine Run.go rfl ?_)
      refine Run.bool 55 rfl (fun h2 => ?_) (fun h2 => ?_)
      · have h2 : oI (lw n l k) ≥ 0 := of_decide_eq_true h2
        obtain ⟨c, hc⟩ : ∃ c, lw n l k = some c := by
          cases hl : lw n l k with
          | none => rw [hl] at h2; exact absurd h2 (by decide)
          | some c => exact ⟨c, rfl⟩
        repeat (refine Run.go rfl ?_)
        refine Run.bool 58 rfl (fun h3 => ?_) (fun h3 => ?_)
        · have h3 : oI (hg n l k) < 0 := of_decide_eq_true h3
          have hd : hg n l k = none := by
            cases hh : hg n l k with
            | none => rfl
            | some d => rw [hh] at h3; exact absurd h3 (by unfold oI; simp only; omega)
          rw [hc, hd] at hp
          repeat (refine Run.go rfl ?_)
          refine Run.of hM ⟨rfl, rfl, rfl, rfl, rfl, rfl, rfl, rfl, ?_, trivial⟩ ⟨rfl, trivial⟩
          rw [hp]
          rfl
        · have h3 : ¬ oI (hg n l k) < 0 := of_decide_eq_false h3
          obtain ⟨d, hd⟩ : ∃ d, hg n l k = some d := by
            cases hh : hg n l k with
            | none => rw [hh] at h3; exact absurd (by decide) h3
            | some d => exact ⟨d, rfl⟩
          rw [hc, hd] at hp
          repeat (refine Run.go rfl ?_)
          refine Run.of hM ⟨rfl, rfl, rfl, rfl, rfl, rfl, rfl, rfl, ?_, trivial⟩ ⟨rfl, trivial⟩
          show bo (decide (oI (lw n l k) ≤ oI (hg n l k))) = _
          rw [hp, hc, hd]
          show bo (decide ((c : Int) ≤ (d : Int))) = bo (if c ≤ d then (c, true) else (d, false)).2
          by_cases e : c ≤ d
          · rw [if_pos e, decide_eq_true (by omega)]
          · rw [if_neg e, decide_eq_false (by omega)]
      · have h2 : ¬ oI (lw n l k) ≥ 0 := of_decide_eq_false h2
        have hc : lw n l k = none := by
          cases hl : lw n l k with
          | none => rfl
          | some c => rw [hl] at h2; exact absurd (by unfold oI; simp only; omega) h2
        rcases key with ⟨c, e, -⟩ | ⟨d, hd, hp2, -⟩
        · rw [hc] at e; cases e
        repeat (refine Run.go rfl ?_)
        refine Run.of hM ⟨rfl, rfl, rfl, rfl, rfl, rfl, rfl, rfl, ?_, trivial⟩ ⟨rfl, trivial⟩
        rw [hp2]
        rfl
    refine Run.cond rfl (fun h2 => ?_) (fun h2 => ?_)
    · obtain ⟨c, hc, hp2, c1, c2⟩ : ∃ c, lw n l k = some c ∧ psh n l k = (c, true) ∧ 1 ≤ c ∧ c ≤ k := by
        rcases key with e | ⟨d, hd, hp2, -⟩
        · exact e
        · rw [hp2] at h2; cases h2
      have hn' : nat' n l k = fr l k - 1 := by rw [nat', if_neg hn0, hp2]; rfl
      have hs' : sh n l k = shf l (k - c) c (-1) := by rw [sh, if_neg hn0, hp2]; rfl
      rw [hs', hp2] at hN
      rw [hc]
      repeat (refine Run.go rfl ?_)
      refine Run.unpack 10 rfl rfl ?_
      refine Run.loop (fun j : Nat => ⟨[(0, .rp (rkR ex ⟨n, l⟩).cells 0), (1, .rp (bkA b).cells 0), (4, .bp (4, 0) 0), (7, i64 (k : Nat)), (10, .vec (10, 0) 0 l.length), (11, i64 (c : Nat)), (12, i64 (nat' n l k)), (15, i64 ((k - c + j : Nat) : Int))],
        [((4, 0), .box [i16 0, .lit (.slice none 0 0)]), ((10, 0), .vec 9 false ((shf l (k - c) j (-1)).map plA))]⟩) (fun j => j ≤ c) (fun j => c - j) 0 (by omega) ?_ ?_
      · refine St.Le.mk' ⟨rfl, rfl, rfl, rfl, ?_, rfl, ?_, ?_, trivial⟩ ⟨rfl, ?_, trivial⟩
        · show AV.vec _ _ (l.map plA).length = _
          rw [hlm]
        · show i64 (IntKind.i64.wrap (fr l k - 1)) = i64 _
          rw [wrap_i64 (by omega) (by omega), hn']
        · show i64 (IntKind.i64.wrap ((k : Int) - c)) = i64 ((k - c + 0 : Nat) : Int)
          rw [wrap_i64 (by omega) (by omega), show ((k - c + 0 : Nat) : Int) = (k : Int) - c by omega]
        · show Ob.vec _ _ _ = Ob.vec _ _ _
          rw [shf_zero]
      intro j hj IH
      repeat (refine Run.go rfl ?_)
      refine Run.cond rfl (fun h2 => ?_) (fun h2 => ?_)
      · have h2 : j < c := by simp at h2; omega
        have hil : k - c + j < l.length := by omega
        have hp0 := (h.i16 hil).2
        have hat := shf_at (d := (-1)) hil
        have hst := shf_step (l := l) (i := k - c) (j := j) (d := (-1)) (by omega)
        have hsl := shf_len (l := l) (i := k - c) (c := j) (d := (-1)) (by omega)
        have hge := h.ge (k - c + j) hil
        have hw16 : IntKind.i16.wrap (l[k - c + j].p - 1) = l[k - c + j].p - 1 := wrap_i16 (by omega) (by omega)
        generalize shf l (k - c) j (-1) = S at hat hst hsl
        have hat2 : (S.map plA)[0 + ((k - c + j : Nat) : Int).toNat]? = some (plA l[k - c + j]) := by
          rw [List.getElem?_map, Nat.zero_add, Int.toNat_natCast, hat]; rfl
        repeat (refine Run.go rfl ?_)
        refine Run.val rfl rfl rfl (ValOk.idxv (m := ((k - c + j : Nat) : Int)) rfl rfl rfl rfl rfl rfl (by omega) (by omega)) rfl ?_
        repeat (refine Run.go rfl ?_)
        refine Run.val rfl rfl rfl (ValOk.loadv (plA l[k - c + j]) rfl rfl rfl rfl hat2 rfl) rfl ?_
        repeat (refine Run.go rfl ?_)
        refine Run.val rfl rfl rfl (ValOk.idxv (m := ((k - c + j : Nat) : Int)) rfl rfl rfl rfl rfl rfl (by omega) (by omega)) rfl ?_
        repeat (refine Run.go rfl ?_)
        refine Run.storee (plA l[k - c + j]) (plA (mvP (-1) l[k - c + j])) rfl rfl rfl rfl rfl rfl rfl hat2 rfl rfl ?_ ?_
        · show plA ⟨IntKind.i16.wrap (l[k - c + j].p - 1), l[k - c + j].b⟩ = _
          rw [hw16]
          rfl
        repeat (refine Run.go rfl ?_)
        refine Run.of (IH (j + 1) (by omega) (by omega)) ⟨rfl, rfl, rfl, rfl, rfl, rfl, rfl, ?_, trivial⟩ ⟨rfl, ?_, trivial⟩
        · show i64 (IntKind.i64.wrap _) = i64 _
          rw [wrap_i64 (by omega) (by omega)]
          rfl
        · show Ob.vec _ _ _ = Ob.vec _ _ _
          rw [← hst, ← List.map_set, Nat.zero_add, Int.toNat_natCast]
      · have h2 : j = c := by simp at h2; omega
        have hsl := shf_len (l := l) (i := k - c) (c := c) (d := (-1)) (by omega)
        subst h2
        repeat (refine Run.go rfl ?_)
        refine Run.pack 10 rfl rfl (by rw [List.length_map, hsl]) ?_
        exact Run.of hN ⟨rfl, rfl, rfl, rfl, rfl, rfl, rfl, trivial⟩ ⟨rfl, trivial⟩
    · obtain ⟨d, hd, hp2, d1, d2⟩ : ∃ d, hg n l k = some d ∧ psh n l k = (d, false) ∧ 1 ≤ d ∧ k + d ≤ l.length := by
        rcases key with ⟨c, hc, hp2, -⟩ | e
        · rw [hp2] at h2; cases h2
        · exact e
      have hn' : nat' n l k = fr l k := by rw [nat', if_neg hn0, hp2]; rfl
      have hs' : sh n l k = shf l k d 1 := by rw [sh, if_neg hn0, hp2]; rfl
      rw [hs', hp2] at hN
      rw [hd]
      repeat (refine Run.go rfl ?_)
      refine Run.unpack 10 rfl rfl ?_
      refine Run.loop (fun j : Nat => ⟨[(0, .rp (rkR ex ⟨n, l⟩).cells 0), (1, .rp (bkA b).cells 0), (4, .bp (4, 0) 0), (7, i64 (k : Nat)), (10, .vec (10, 0) 0 l.length), (11, i64 (d : Nat)), (12, i64 (nat' n l k)), (14, i64 (d : Nat)), (16, i64 ((k + j : Nat) : Int))],
        [((4, 0), .box [i16 0, .lit (.slice none 0 0)]), ((10, 0), .vec 9 false ((shf l k j 1).map plA))]⟩) (fun j => j ≤ d) (fun j => d - j) 0 (by omega) ?_ ?_
      · refine St.Le.mk' ⟨rfl, rfl, rfl, rfl, ?_, rfl, ?_, rfl, ?_, trivial⟩ ⟨rfl, ?_, trivial⟩
        · show AV.vec _ _ (l.map plA).length = _
          rw [hlm]
        · show i64 (fr l k) = i64 _
          rw [hn']
        · rfl
        · show Ob.vec _ _ _ = Ob.vec _ _ _
          rw [shf_zero]
      intro j hj IH
      have hwk : IntKind.i64.wrap ((k : Int) + d) = k + d := wrap_i64 (by omega) (by omega)
      repeat (refine Run.go rfl ?_)
      refine Run.cond rfl (fun h2 => ?_) (fun h2 => ?_)
      · have h2 : ((k + j : Nat) : Int) < IntKind.i64.wrap ((k : Int) + d) := by simpa using h2
        rw [hwk] at h2
        have h2 : j < d := by omega
        have hil : k + j < l.length := by omega
        have hp0 := (h.i16 hil).2
        have hat := shf_at (d := 1) hil
        have hst := shf_step (l := l) (i := k) (j := j) (d := 1) (by omega)
        have hsl := shf_len (l := l) (i := k) (c := j) (d := 1) (by omega)
        have hw16 : IntKind.i16.wrap (l[k + j].p + 1) = l[k + j].p + 1 := wrap_i16 (by omega) (by omega)
        generalize shf l k j 1 = S at hat hst hsl
        have hat2 : (S.map plA)[0 + ((k + j : Nat) : Int).toNat]? = some (plA l[k + j]) := by
          rw [List.getElem?_map, Nat.zero_add, Int.toNat_natCast, hat]; rfl
        repeat (refine Run.go rfl ?_)
        refine Run.val rfl rfl rfl (ValOk.idxv (m := ((k + j : Nat) : Int)) rfl rfl rfl rfl rfl rfl (by omega) (by omega)) rfl ?_
        repeat (refine Run.go rfl ?_)
        refine Run.val rfl rfl rfl (ValOk.loadv (plA l[k + j]) rfl rfl rfl rfl hat2 rfl) rfl ?_
        repeat (refine Run.go rfl ?_)
        refine Run.val rfl rfl rfl (ValOk.idxv (m := ((k + j : Nat) : Int)) rfl rfl rfl rfl rfl rfl (by omega) (by omega)) rfl ?_
        repeat (refine Run.go rfl ?_)
        refine Run.storee (plA l[k + j]) (plA (mvP 1 l[k + j])) rfl rfl rfl rfl rfl rfl rfl hat2 rfl rfl ?_ ?_
        · show plA ⟨IntKind.i16.wrap (l[k + j].p + 1), l[k + j].b⟩ = _
          rw [hw16]
          rfl
        repeat (refine Run.go rfl ?_)
        refine Run.of (IH (j + 1) (by omega) (by omega)) ⟨rfl, rfl, rfl, rfl, rfl, rfl, rfl, rfl, ?_, trivial⟩ ⟨rfl, ?_, trivial⟩
        · show i64 (IntKind.i64.wrap _) = i64 _
          rw [wrap_i64 (by omega) (by omega)]
          rfl
        · show Ob.vec _ _ _ = Ob.vec _ _ _
          rw [← hst, ← List.map_set, Nat.zero_add, Int.toNat_natCast]
      · have h2 : ¬ ((k + j : Nat) : Int) < IntKind.i64.wrap ((k : Int) + d) := by simpa using h2
        rw [hwk] at h2
        have h2 : j = d := by omega
        have hsl := shf_len (l := l) (i := k) (c := d) (d := 1) (by omega)
        subst h2
        repeat (refine Run.go rfl ?_)
        refine Run.pack 10 rfl rfl (by rw [List.length_map, hsl]) ?_
        exact Run.of hN ⟨rfl, rfl, rfl, rfl, rfl, rfl, rfl, trivial⟩ ⟨rfl, trivial⟩
  · have h1 : ¬ rm n l k = 0 := of_decide_eq_false h1
    have hpos : 0 < rm n l k := by omega
    have hn' : nat' n l k = fr l k + (rm n l k - 1).tdiv 2 := by rw [nat', if_pos hpos]
    have hs' : sh n l k = l := by rw [sh, if_pos hpos]
    have hd : 0 ≤ (rm n l k - 1).tdiv 2 ∧ (rm n l k - 1).tdiv 2 ≤ n := by
      rw [Int.tdiv_eq_ediv_of_nonneg (by omega)]
      omega
    have hp : psh n l k = (0, false) := by rw [psh, if_pos hpos]
    repeat (refine Run.go rfl ?_)
    refine Run.of hN ⟨rfl, rfl, rfl, rfl, ?_, ?_, ?_, trivial⟩ ⟨rfl, trivial⟩
    · rw [hs']; rfl
    · rw [hp]; rfl
    · show i64 (IntKind.i64.wrap (fr l k + IntKind.i64.wrap ((IntKind.i64.wrap (rm n l k - 1)).tdiv 2))) = i64 _
      rw [hwr, wrap_i64 (n := Int.tdiv _ _) (by omega) (by omega), wrap_i64 (by omega) (by omega), hn']
  have hw16 : IntKind.i16.wrap (nat' n l k) = nat' n l k := wrap_i16 (by omega) (by omega)
  generalize sh n l k = S at *
  have hSm : (S.map plA).length = S.length := List.length_map ..
  refine Run.freeze (v' := .ro 9 false (S.map plA)) 10 rfl rfl (by show AV.ro _ _ (AV.frzL _) = _; rw [frzP]) ?_
  repeat (refine Run.go rfl ?_)
  refine Run.buildSlice [] rfl rfl rfl rfl rfl rfl rfl rfl rfl rfl rfl rfl rfl rfl ?_
  refine Run.loosen0 101 rfl ?_
  repeat (refine Run.go rfl ?_)
  refine Run.val rfl rfl rfl (ValOk.cut (l := 0) (h := (k : Nat)) rfl rfl rfl rfl rfl rfl (by omega) (by omega) (by omega) rfl) rfl ?_
  refine Run.unpack 101 rfl rfl ?_
  have hTm : ((S.map plA).take k).length = k := by rw [List.length_take, hSm, hshl, Nat.min_eq_left hk]
  refine Run.appendr (ys := (S.map plA).take k) rfl rfl rfl rfl rfl rfl rfl rfl rfl rfl rfl rfl rfl (by rw [← List.map_take]; exact one_pl _) (by show (0 + _) * 16 ≤ _; rw [hTm]; omega) (by rw [hTm]; simp [capMax]; omega) rfl ?_
  rw [List.nil_append]
  repeat (refine Run.go rfl ?_)
  refine Run.val rfl rfl rfl (ValOk.build rfl rfl rfl rfl rfl) rfl ?_
  refine Run.buildSlice [plA ⟨IntKind.i16.wrap (nat' n l k), b⟩] rfl rfl rfl rfl rfl rfl rfl rfl rfl rfl rfl rfl rfl rfl ?_
  rw [hw16]
  refine Run.appendo rfl rfl rfl rfl rfl rfl rfl rfl rfl rfl rfl rfl rfl rfl (by show (_ + 1) * 16 ≤ _; rw [hTm]; omega) (by rw [hTm]; simp [capMax]; omega) (by decide) rfl ?_
  repeat (refine Run.go rfl ?_)
  obtain ⟨T, hT⟩ : ∃ T, T = S.take k ++ [⟨nat' n l k, b⟩] := ⟨_, rfl⟩
  have hT2 : (S.map plA).take k ++ [plA ⟨nat' n l k, b⟩] = T.map plA := by rw [hT, List.map_append, List.map_take]; rfl
  have hins : ins S k (nat' n l k) b = T ++ S.drop k := by rw [hT]; rfl
  rw [hT2]
  rw [hins] at hgg
  refine Run.le (st' := ⟨[(0, .rp (rkR ex ⟨n, l⟩).cells 0), (4, .bp (4, 0) 0), (7, i64 (k : Nat)), (10, .ro 9 false (S.map plA)), (11, i64 ((psh n l k).1 : Nat)), (17, .own 9 false (T.map plA))], [((4, 0), .box [i16 0, .lit (.slice none 0 0)])]⟩) (St.Le.mk' ⟨rfl, rfl, rfl, rfl, rfl, rfl, trivial⟩ ⟨rfl, trivial⟩) ?_
  refine Run.unpack 17 rfl rfl ?_
  have hTl : (T.map plA).length = k + 1 := by rw [← hT2, List.length_append, hTm]; rfl
  have hDl : ((S.drop k).map plA).length ≤ 60 := by simp; omega
  have hlenAB : ((T.map plA).length + ((S.drop k).map plA).length) * 16 ≤ 140737488355328 := by rw [hTl]; omega
  have hcapAB : (T.map plA).length + ((S.drop k).map plA).length ≤ capMax := by rw [hTl]; simp only [capMax]; omega
  generalize (psh n l k).1 = m at *
  refine Run.drawI (fun D => ⟨[(0, .rp (rkR ex ⟨n, l⟩).cells 0), (4, .bp (4, 0) 0), (7, i64 (k : Nat)), (10, .ro 9 false (S.map plA)), (11, i64 (m : Nat)), (17, .vec (17, 0) 0 (T.map plA).length), (115, bif D 0 then .rp (rkR ex ⟨n, l⟩).cells 0 else .top), (116, bif D 1 then .rp (rkR ex ⟨n, l⟩).cells 0 else .top), (117, bif D 2 then .rp (rkR ex ⟨n, l⟩).cells 0 else .top), (118, bif D 3 then i16 n else .top), (119, bif D 4 then .vec (17, 0) 0 (T.map plA).length else .top), (120, bif D 5 then .ro 9 false (S.map plA) else .top), (121, bif D 6 then i64 (k : Nat) else .top), (122, bif D 7 then .ro 9 false ((S.drop k).map plA) else .top), (123, bif D 9 then .top else bif D 8 then .own 9 false ((T.map plA) ++ ((S.drop k).map plA)) else .top), (124, bif D 9 then .agg [i16 n, .vec (123, 0) 0 ((T.map plA) ++ ((S.drop k).map plA)).length] else .top), (125, bif D 10 then i64 (m : Nat) else .top), (5, bif D 12 then i64 (m : Nat) else .top), (6, bif D 13 then bo true else .top)], [((4, 0), (bif D 11 then Ob.box [i16 n, .vec (123, 0) 0 ((T.map plA) ++ ((S.drop k).map plA)).length] else Ob.box [i16 0, .lit (.slice none 0 0)])), ((17, 0), (bif D 8 then Ob.gone else Ob.vec 9 false (T.map plA))), ((123, 0), (bif D 9 then Ob.vec 9 false ((T.map plA) ++ ((S.drop k).map plA)) else Ob.gone))]⟩) (by decide +kernel) (by decide +kernel) ?_ ?_ fun k' => ⟨?_, ?_, ?_, ?_, ?_, ?_, ?_, ?_, ?_, ?_, ?_, ?_, ?_, ?_, trivial⟩
  · exact St.Le.mk' ⟨rfl, rfl, rfl, rfl, rfl, rfl, rfl, rfl, rfl, rfl, rfl, rfl, rfl, rfl, rfl, rfl, rfl, rfl, rfl, trivial⟩ ⟨rfl, rfl, rfl, trivial⟩
  rotate_left
  · intro D hid h0 hp hs rest hK
    obtain ⟨d1, -⟩ : AllD D false [1] := ideal_sub hs (by decide +kernel)
    simp only [d1, h0, cond_true, cond_false]
    refine Run.go rfl ?_
    refine Run.le ?_ hK
    simp only [d1, h0, Nat.reduceBEq, Bool.false_or, Bool.true_or, cond_true, cond_false]
    exact St.Le.mk' ⟨rfl, rfl, rfl, rfl, rfl, rfl, rfl, rfl, rfl, rfl, rfl, rfl, rfl, rfl, rfl, rfl, rfl, rfl, rfl, trivial⟩ ⟨rfl, rfl, rfl, trivial⟩
  · intro D hid h0 hp hs rest hK
    obtain ⟨d0, -⟩ : AllD D true [0] := ideal_sub hp (by decide +kernel)
    obtain ⟨d2, -⟩ : AllD D false [2] := ideal_sub hs (by decide +kernel)
    simp only [d0, d2, h0, cond_true, cond_false]
    refine Run.go rfl ?_
    refine Run.le ?_ hK
    simp only [d0, d2, h0, Nat.reduceBEq, Bool.false_or, Bool.true_or, cond_true, cond_false]
    exact St.Le.mk' ⟨rfl, rfl, rfl, rfl, rfl, rfl, rfl, rfl, rfl, rfl, rfl, rfl, rfl, rfl, rfl, rfl, rfl, rfl, rfl, trivial⟩ ⟨rfl, rfl, rfl, trivial⟩
  · intro D hid h0 hp hs rest hK
    obtain ⟨d1, -⟩ : AllD D true [1] := ideal_sub hp (by decide +kernel)
    obtain ⟨d3, -⟩ : AllD D false [3] := ideal_sub hs (by decide +kernel)
    simp only [d1, d3, h0, cond_true, cond_false]
    refine Run.go rfl ?_
    refine Run.le ?_ hK
    simp only [d1, d3, h0, Nat.reduceBEq, Bool.false_or, Bool.true_or, cond_true, cond_false]
    exact St.Le.mk' ⟨rfl, rfl, rfl, rfl, rfl, rfl, rfl, rfl, rfl, rfl, rfl, rfl, rfl, rfl, rfl, rfl, rfl, rfl, rfl, trivial⟩ ⟨rfl, rfl, rfl, trivial⟩
  · intro D hid h0 hp hs rest hK
    obtain ⟨d2, -⟩ : AllD D true [2] := ideal_sub hp (by decide +kernel)
    obtain ⟨d9, -⟩ : AllD D false [9] := ideal_sub hs (by decide +kernel)
    simp only [d2, d9, h0, cond_true, cond_false]
    refine Run.go rfl ?_
    refine Run.le ?_ hK
    simp only [d2, d9, h0, Nat.reduceBEq, Bool.false_or, Bool.true_or, cond_true, cond_false]
    exact St.Le.mk' ⟨rfl, rfl, rfl, rfl, rfl, rfl, rfl, rfl, rfl, rfl, rfl, rfl, rfl, rfl, rfl, rfl, rfl, rfl, rfl, trivial⟩ ⟨rfl, rfl, rfl, trivial⟩
  · intro D hid h0 hp hs rest hK
    obtain ⟨d8, -⟩ : AllD D false [8] := ideal_sub hs (by decide +kernel)
    simp only [d8, h0, cond_true, cond_false]
    refine Run.go rfl ?_
    refine Run.le ?_ hK
    simp only [d8, h0, Nat.reduceBEq, Bool.false_or, Bool.true_or, cond_true, cond_false]
    exact St.Le.mk' ⟨rfl, rfl, rfl, rfl, rfl, rfl, rfl, rfl, rfl, rfl, rfl, rfl, rfl, rfl, rfl, rfl, rfl, rfl, rfl, trivial⟩ ⟨rfl, rfl, rfl, trivial⟩
  · intro D hid h0 hp hs rest hK
    obtain ⟨d7, -⟩ : AllD D false [7] := ideal_sub hs (by decide +kernel)
    simp only [d7, h0, cond_true, cond_false]
    refine Run.go rfl ?_
    refine Run.le ?_ hK
    simp only [d7, h0, Nat.reduceBEq, Bool.false_or, Bool.true_or, cond_true, cond_false]
    exact St.Le.mk' ⟨rfl, rfl, rfl, rfl, rfl, rfl, rfl, rfl, rfl, rfl, rfl, rfl, rfl, rfl, rfl, rfl, rfl, rfl, rfl, trivial⟩ ⟨rfl, rfl, rfl, trivial⟩
  · intro D hid h0 hp hs rest hK
    obtain ⟨d7, -⟩ : AllD D false [7] := ideal_sub hs (by decide +kernel)
    simp only [d7, h0, cond_true, cond_false]
    refine Run.go rfl ?_
    refine Run.le ?_ hK
    simp only [d7, h0, Nat.reduceBEq, Bool.false_or, Bool.true_or, cond_true, cond_false]
    exact St.Le.mk' ⟨rfl, rfl, rfl, rfl, rfl, rfl, rfl, rfl, rfl, rfl, rfl, rfl, rfl, rfl, rfl, rfl, rfl, rfl, rfl, trivial⟩ ⟨rfl, rfl, rfl, trivial⟩
  · intro D hid h0 hp hs rest hK
    obtain ⟨d5, d6, -⟩ : AllD D true [5, 6] := ideal_sub hp (by decide +kernel)
    obtain ⟨d8, -⟩ : AllD D false [8] := ideal_sub hs (by decide +kernel)
    simp only [d5, d6, d8, h0, cond_true, cond_false]
    refine Run.val rfl rfl rfl (ValOk.cut (l := (k : Nat)) (h := (S.map plA).length) (ys := ((S.drop k).map plA)) rfl rfl rfl rfl rfl rfl (by omega) (by omega) (by omega) (by rw [Int.toNat_natCast, Int.toNat_natCast, List.take_length, List.map_drop])) rfl ?_
    refine Run.le ?_ hK
    simp only [d5, d6, d8, h0, Nat.reduceBEq, Bool.false_or, Bool.true_or, cond_true, cond_false]
    exact St.Le.mk' ⟨rfl, rfl, rfl, rfl, rfl, rfl, rfl, rfl, rfl, rfl, rfl, rfl, rfl, rfl, rfl, rfl, rfl, rfl, rfl, trivial⟩ ⟨rfl, rfl, rfl, trivial⟩
  · intro D hid h0 hp hs rest hK
    obtain ⟨d4, d7, -⟩ : AllD D true [4, 7] := ideal_sub hp (by decide +kernel)
    obtain ⟨d9, -⟩ : AllD D false [9] := ideal_sub hs (by decide +kernel)
    have d11 : D 11 = false := ideal_no (i := 11) (j := 9) hid (by decide +kernel) d9
    simp only [d4, d7, d9, d11, h0, cond_true, cond_false]
    refine Run.appendr (id := (17, 0)) (ys := ((S.drop k).map plA)) rfl rfl rfl rfl rfl rfl rfl rfl rfl rfl rfl rfl rfl (one_pl _) hlenAB hcapAB rfl ?_
    refine Run.le ?_ hK
    simp only [d4, d7, d9, d11, h0, Nat.reduceBEq, Bool.false_or, Bool.true_or, cond_true, cond_false]
    exact St.Le.mk' ⟨rfl, rfl, rfl, rfl, rfl, rfl, rfl, rfl, rfl, rfl, rfl, rfl, rfl, rfl, rfl, rfl, rfl, rfl, rfl, trivial⟩ ⟨rfl, rfl, rfl, trivial⟩
  · intro D hid h0 hp hs rest hK
    obtain ⟨d3, d8, -⟩ : AllD D true [3, 8] := ideal_sub hp (by decide +kernel)
    obtain ⟨d11, -⟩ : AllD D false [11] := ideal_sub hs (by decide +kernel)
    have d2 : D 2 = true := hid 3 2 (by decide +kernel) (by decide +kernel) d3
    have d1 : D 1 = true := hid 2 1 (by decide +kernel) (by decide +kernel) d2
    have d0 : D 0 = true := hid 1 0 (by decide +kernel) (by decide +kernel) d1
    have d4 : D 4 = true := hid 8 4 (by decide +kernel) (by decide +kernel) d8
    have d7 : D 7 = true := hid 8 7 (by decide +kernel) (by decide +kernel) d8
    have d5 : D 5 = true := hid 7 5 (by decide +kernel) (by decide +kernel) d7
    have d6 : D 6 = true := hid 7 6 (by decide +kernel) (by decide +kernel) d7
    simp only [d3, d8, d11, d2, d1, d0, d4, d7, d5, d6, h0, cond_true, cond_false]
    refine Run.unpack 123 rfl (by cases D 10 <;> cases D 12 <;> cases D 13 <;> rfl) ?_
    refine Run.val rfl rfl rfl (ValOk.build rfl rfl rfl rfl rfl) rfl ?_
    refine Run.forget 123 ?_
    refine Run.le ?_ hK
    simp only [d3, d8, d11, d2, d1, d0, d4, d7, d5, d6, h0, Nat.reduceBEq, Bool.false_or, Bool.true_or, cond_true, cond_false]
    exact St.Le.mk' ⟨rfl, rfl, rfl, rfl, rfl, rfl, rfl, rfl, rfl, rfl, rfl, rfl, rfl, rfl, rfl, rfl, rfl, rfl, rfl, trivial⟩ ⟨rfl, rfl, rfl, trivial⟩
  · intro D hid h0 hp hs rest hK
    obtain ⟨d12, -⟩ : AllD D false [12] := ideal_sub hs (by decide +kernel)
    simp only [d12, h0, cond_true, cond_false]
    refine Run.go rfl ?_
    refine Run.le ?_ hK
    simp only [d12, h0, Nat.reduceBEq, Bool.false_or, Bool.true_or, cond_true, cond_false]
    exact St.Le.mk' ⟨rfl, rfl, rfl, rfl, rfl, rfl, rfl, rfl, rfl, rfl, rfl, rfl, rfl, rfl, rfl, rfl, rfl, rfl, rfl, trivial⟩ ⟨rfl, rfl, rfl, trivial⟩
  · intro D hid h0 hp hs rest hK
    obtain ⟨d9, -⟩ : AllD D true [9] := ideal_sub hp (by decide +kernel)
    obtain ⟨d12, -⟩ : AllD D false [12] := ideal_sub hs (by decide +kernel)
    simp only [d9, d12, h0, cond_true, cond_false]
    refine Run.go rfl ?_
    refine Run.le ?_ hK
    simp only [d9, d12, h0, Nat.reduceBEq, Bool.false_or, Bool.true_or, cond_true, cond_false]
    exact St.Le.mk' ⟨rfl, rfl, rfl, rfl, rfl, rfl, rfl, rfl, rfl, rfl, rfl, rfl, rfl, rfl, rfl, rfl, rfl, rfl, rfl, trivial⟩ ⟨rfl, rfl, rfl, trivial⟩
  · intro D hid h0 hp hs rest hK
    obtain ⟨d10, d11, -⟩ : AllD D true [10, 11] := ideal_sub hp (by decide +kernel)
    obtain ⟨d13, -⟩ : AllD D false [13] := ideal_sub hs (by decide +kernel)
    simp only [d10, d11, d13, h0, cond_true, cond_false]
    refine Run.go rfl ?_
    refine Run.le ?_ hK
    simp only [d10, d11, d13, h0, Nat.reduceBEq, Bool.false_or, Bool.true_or, cond_true, cond_false]
    exact St.Le.mk' ⟨rfl, rfl, rfl, rfl, rfl, rfl, rfl, rfl, rfl, rfl, rfl, rfl, rfl, rfl, rfl, rfl, rfl, rfl, rfl, trivial⟩ ⟨rfl, rfl, rfl, trivial⟩
  · intro D hid h0 hp hs rest hK
    obtain ⟨d12, -⟩ : AllD D true [12] := ideal_sub hp (by decide +kernel)
    simp only [d12, h0, cond_true, cond_false]
    refine Run.go rfl ?_
    refine Run.le ?_ hK
    simp only [d12, h0, Nat.reduceBEq, Bool.false_or, Bool.true_or, cond_true, cond_false]
    exact St.Le.mk' ⟨rfl, rfl, rfl, rfl, rfl, rfl, rfl, rfl, rfl, rfl, rfl, rfl, rfl, rfl, rfl, rfl, rfl, rfl, rfl, trivial⟩ ⟨rfl, rfl, rfl, trivial⟩
  repeat (refine Run.go rfl ?_)
  refine Run.packBox (4, 0) 1 rfl rfl rfl rfl ?_
  refine Run.ret hgg rfl ?_
  show AV.tup [.agg [i16 n, .own 9 false (T.map plA ++ (S.drop k).map plA)], _, _] = AV.tup [.agg [i16 n, .own 9 false ((T ++ S.drop k).map plA)], _, _]
  rw [List.map_append]
  rfl

noncomputable def X13 : Fx := ⟨Tryz.prog, tys, 13, Tryz.f13, [0, 1]⟩
theorem X13_ok : X13.Ok := ⟨Tryz.func13, tys_ok⟩
theorem specAddAll_ct (r : Rk) (ex : Bool) (lst : List Bk) (e2 : Bool) (hr : rkOk r) (hlb : ∀ x ∈ lst, bkRng x) (hll : lst.length ≤ 1048576) : Ct Tryz.prog 13 [rkR ex r, .ro 8 e2 (lst.map bkA)] (aaA (aaRes r lst)) [] := by
  have hlen := hr.1.2
  refine Ct.intro X13 X13_ok rfl (by kernel_rfl) rfl rfl fun g hg => ?_
  repeat (refine Run.go rfl ?_)
  refine Run.cs rfl (l05Ok_ct r ex hr) rfl rfl ?_
  repeat (refine Run.go rfl ?_)
  refine Run.bool 15 rfl (fun h => ?_) (fun h => ?_)
  · have h : vR r = false := by simpa using h
    repeat (refine Run.go rfl ?_)
    refine Run.cond rfl (fun _ => ?_) (fun h => by simp at h)
    repeat (refine Run.go rfl ?_)
    refine Run.val rfl rfl rfl (ValOk.build rfl rfl rfl rfl rfl) rfl ?_
    repeat (refine Run.go rfl ?_)
    refine Run.nilBox (4, 0) 1 9 false rfl rfl ?_
    refine Run.ret hg rfl ?_
    rw [aaRes, if_neg (by rw [h]; decide)]
    rfl
  have hv : vR r = true := by simpa using h
  have hV := (vR_VR hr.2).1 hv
  repeat (refine Run.go rfl ?_)
  refine Run.cs rfl (l01Ok_ct lst e2 hll hlb) rfl rfl ?_
  repeat (refine Run.go rfl ?_)
  refine Run.cond rfl (fun h => ?_) (fun h => ?_)
  · have h : vBs lst = false := by simpa using h
    repeat (refine Run.go rfl ?_)
    refine Run.val rfl rfl rfl (ValOk.build rfl rfl rfl rfl rfl) rfl ?_
    repeat (refine Run.go rfl ?_)
    refine Run.nilBox (4, 0) 1 9 false rfl rfl ?_
    refine Run.ret hg rfl ?_
    rw [aaRes, if_pos hv, if_neg (by rw [h]; decide)]
    rfl
  have hvb : vBs lst = true := by simpa using h
  have hvb1 : lst.length ≤ 60 ∧ ∀ x ∈ lst, vB x = true := by simpa [vBs] using hvb
  have hbr : ∀ x ∈ r.bs, bkRng x.b := fun x hx => (hr.2 x hx).2
  rw [aaRes, if_pos hv, if_pos hvb] at hg
  obtain ⟨n, l0⟩ := r
  simp only at hV hbr hg
  have hn := hV.hn
  have hl0 := hV.len
  have hlen0 : (0 + (l0.map plA).length) * 16 ≤ 140737488355328 := by rw [List.length_map]; omega
  have hcap0 : 0 + (l0.map plA).length ≤ capMax := by rw [List.length_map]; simp only [capMax]; omega
  repeat (refine Run.go rfl ?_)
  refine Run.drawI (fun D => ⟨[(1, .ro 8 e2 (lst.map bkA)), (2, .bp (2, 0) 0), (4, .bp (4, 0) 0), (7, i64 ((0 : Nat) : Int)), (21, bif D 0 then .bp (2, 0) 0 else .top), (22, bif D 1 then i16 n else .top), (23, bif D 5 then .top else bif D 2 then .own 9 false [] else .top), (24, bif D 3 then .bp (2, 0) 1 else .top), (25, bif D 4 then .ro 9 ex (l0.map plA) else .top), (26, bif D 6 then .top else bif D 5 then .own 9 false (l0.map plA) else .top), (27, bif D 6 then .agg [i16 n, .vec (26, 0) 0 (l0.map plA).length] else .top), (8, bif D 7 then .bp (8, 0) 0 else .top)], [((2, 0), Ob.box (rkR ex ⟨n, l0⟩).cells), ((4, 0), Ob.box [i16 0, .lit (.slice none 0 0)]), ((8, 0), (bif D 8 then Ob.box [i16 n, .vec (26, 0) 0 (l0.map plA).length] else (bif D 7 then Ob.box [i16 0, .lit (.slice none 0 0)] else Ob.gone))), ((26, 0), (bif D 6 then Ob.vec 9 false (l0.map plA) else Ob.gone))]⟩) (by decide +kernel) (by decide +kernel) ?_ ?_ fun k' => ⟨?_, ?_, ?_, ?_, ?_, ?_, ?_, ?_, ?_, trivial⟩
  · exact St.Le.mk' ⟨rfl, rfl, rfl, rfl, rfl, rfl, rfl, rfl, rfl, rfl, rfl, rfl, trivial⟩ ⟨rfl, rfl, rfl, rfl, trivial⟩
  rotate_left
  · intro D hid h0 hp hs rest hK
    obtain ⟨d1, -⟩ : AllD D false [1] := ideal_sub hs (by decide +kernel)
    simp only [d1, h0, cond_true, cond_false]
    refine Run.go rfl ?_
    refine Run.le ?_ hK
    simp only [d1, h0, Nat.reduceBEq, Bool.false_or, Bool.true_or, cond_true, cond_false]
    exact St.Le.mk' ⟨rfl, rfl, rfl, rfl, rfl, rfl, rfl, rfl, rfl, rfl, rfl, rfl, trivial⟩ ⟨rfl, rfl, rfl, rfl, trivial⟩
  · intro D hid h0 hp hs rest hK
    obtain ⟨d0, -⟩ : AllD D true [0] := ideal_sub hp (by decide +kernel)
    obtain ⟨d6, -⟩ : AllD D false [6] := ideal_sub hs (by decide +kernel)
    simp only [d0, d6, h0, cond_true, cond_false]
    refine Run.go rfl ?_
    refine Run.le ?_ hK
    simp only [d0, d6, h0, Nat.reduceBEq, Bool.false_or, Bool.true_or, cond_true, cond_false]
    exact St.Le.mk' ⟨rfl, rfl, rfl, rfl, rfl, rfl, rfl, rfl, rfl, rfl, rfl, rfl, trivial⟩ ⟨rfl, rfl, rfl, rfl, trivial⟩
  · intro D hid h0 hp hs rest hK
    obtain ⟨d5, -⟩ : AllD D false [5] := ideal_sub hs (by decide +kernel)
    simp only [d5, h0, cond_true, cond_false]
    refine Run.buildSlice [] rfl rfl rfl rfl rfl rfl rfl rfl rfl rfl rfl rfl rfl rfl ?_
    refine Run.loosen0 23 rfl ?_
    refine Run.le ?_ hK
    simp only [d5, h0, Nat.reduceBEq, Bool.false_or, Bool.true_or, cond_true, cond_false]
    exact St.Le.mk' ⟨rfl, rfl, rfl, rfl, rfl, rfl, rfl, rfl, rfl, rfl, rfl, rfl, trivial⟩ ⟨rfl, rfl, rfl, rfl, trivial⟩
  · intro D hid h0 hp hs rest hK
    obtain ⟨d4, -⟩ : AllD D false [4] := ideal_sub hs (by decide +kernel)
    simp only [d4, h0, cond_true, cond_false]
    refine Run.go rfl ?_
    refine Run.le ?_ hK
    simp only [d4, h0, Nat.reduceBEq, Bool.false_or, Bool.true_or, cond_true, cond_false]
    exact St.Le.mk' ⟨rfl, rfl, rfl, rfl, rfl, rfl, rfl, rfl, rfl, rfl, rfl, rfl, trivial⟩ ⟨rfl, rfl, rfl, rfl, trivial⟩
  · intro D hid h0 hp hs rest hK
    obtain ⟨d3, -⟩ : AllD D true [3] := ideal_sub hp (by decide +kernel)
    obtain ⟨d5, -⟩ : AllD D false [5] := ideal_sub hs (by decide +kernel)
    simp only [d3, d5, h0, cond_true, cond_false]
    refine Run.go rfl ?_
    refine Run.le ?_ hK
    simp only [d3, d5, h0, Nat.reduceBEq, Bool.false_or, Bool.true_or, cond_true, cond_false]
    exact St.Le.mk' ⟨rfl, rfl, rfl, rfl, rfl, rfl, rfl, rfl, rfl, rfl, rfl, rfl, trivial⟩ ⟨rfl, rfl, rfl, rfl, trivial⟩
  · intro D hid h0 hp hs rest hK
    obtain ⟨d2, d4, -⟩ : AllD D true [2, 4] := ideal_sub hp (by decide +kernel)
    obtain ⟨d6, -⟩ : AllD D false [6] := ideal_sub hs (by decide +kernel)
    simp only [d2, d4, d6, h0, cond_true, cond_false]
    refine Run.unpack 23 rfl (by cases D 0 <;> cases D 1 <;> cases D 3 <;> cases D 7 <;> cases D 8 <;> rfl) ?_
    refine Run.appendr (ys := (l0.map plA)) rfl rfl rfl rfl rfl rfl rfl rfl rfl rfl rfl rfl rfl (one_pl _) hlen0 hcap0 rfl ?_
    rw [List.nil_append]
    refine Run.forget 23 ?_
    refine Run.le ?_ hK
    simp only [d2, d4, d6, h0, Nat.reduceBEq, Bool.false_or, Bool.true_or, cond_true, cond_false]
    exact St.Le.mk' ⟨rfl, rfl, rfl, rfl, rfl, rfl, rfl, rfl, rfl, rfl, rfl, rfl, trivial⟩ ⟨rfl, rfl, rfl, rfl, trivial⟩
  · intro D hid h0 hp hs rest hK
    obtain ⟨d1, d5, -⟩ : AllD D true [1, 5] := ideal_sub hp (by decide +kernel)
    obtain ⟨d8, -⟩ : AllD D false [8] := ideal_sub hs (by decide +kernel)
    simp only [d1, d5, d8, h0, cond_true, cond_false]
    refine Run.unpack 26 rfl (by cases D 0 <;> cases D 2 <;> cases D 3 <;> cases D 4 <;> cases D 7 <;> rfl) ?_
    refine Run.val rfl rfl rfl (ValOk.build rfl rfl rfl rfl rfl) rfl ?_
    refine Run.forget 26 ?_
    refine Run.le ?_ hK
    simp only [d1, d5, d8, h0, Nat.reduceBEq, Bool.false_or, Bool.true_or, cond_true, cond_false]
    exact St.Le.mk' ⟨rfl, rfl, rfl, rfl, rfl, rfl, rfl, rfl, rfl, rfl, rfl, rfl, trivial⟩ ⟨rfl, rfl, rfl, rfl, trivial⟩
  · intro D hid h0 hp hs rest hK
    obtain ⟨d8, -⟩ : AllD D false [8] := ideal_sub hs (by decide +kernel)
    simp only [d8, h0, cond_true, cond_false]
    refine Run.alloc rfl rfl rfl rfl rfl rfl (by cases D 0 <;> cases D 1 <;> cases D 2 <;> cases D 3 <;> cases D 4 <;> cases D 5 <;> cases D 6 <;> rfl) rfl ?_
    refine Run.le ?_ hK
    simp only [d8, h0, Nat.reduceBEq, Bool.false_or, Bool.true_or, cond_true, cond_false]
    exact St.Le.mk' ⟨rfl, rfl, rfl, rfl, rfl, rfl, rfl, rfl, rfl, rfl, rfl, rfl, trivial⟩ ⟨rfl, rfl, rfl, rfl, trivial⟩
  · intro D hid h0 hp hs rest hK
    obtain ⟨d6, d7, -⟩ : AllD D true [6, 7] := ideal_sub hp (by decide +kernel)
    simp only [d6, d7, h0, cond_true, cond_false]
    refine Run.go rfl ?_
    refine Run.le ?_ hK
    simp only [d6, d7, h0, Nat.reduceBEq, Bool.false_or, Bool.true_or, cond_true, cond_false]
    exact St.Le.mk' ⟨rfl, rfl, rfl, rfl, rfl, rfl, rfl, rfl, rfl, rfl, rfl, rfl, trivial⟩ ⟨rfl, rfl, rfl, rfl, trivial⟩
  repeat (refine Run.go rfl ?_)
  refine Run.packBox (8, 0) 1 rfl rfl rfl rfl ?_
  refine Run.loop (fun q : Nat × List Pl × Nat => ⟨[(1, .ro 8 e2 (lst.map bkA)), (4, .bp (4, 0) 0), (7, i64 (q.2.2 : Nat)), (8, .bp (8, 0) 0), (9, i64 (q.1 : Nat))],
    [((4, 0), .box [i16 0, .lit (.slice none 0 0)]), ((8, 0), .box [i16 n, .own 9 false (q.2.1.map plA)])]⟩)
    (fun q => q.1 ≤ lst.length ∧ VR n q.2.1 ∧ (∀ x ∈ q.2.1, bkRng x.b) ∧ q.2.2 ≤ q.1 * 60 ∧ adAll n lst l0 0 = adAll n (lst.drop q.1) q.2.1 q.2.2) (fun q => lst.length - q.1) (0, l0, 0) ⟨by simp, hV, hbr, by simp, rfl⟩ ?_ ?_
  · exact St.Le.mk' ⟨rfl, rfl, rfl, rfl, rfl, trivial⟩ ⟨rfl, rfl, trivial⟩
  rintro ⟨j, l, s⟩ ⟨hj, hVl, hbl, hs, had⟩ IH
  simp only at hj hVl hbl hs had IH
  have hlen := hVl.len
  repeat (refine Run.go rfl ?_)
  refine Run.cond rfl (fun h => ?_) (fun h => ?_)
  · have hlt : j < lst.length := by simpa using h
    rw [List.drop_eq_getElem_cons hlt, adAll] at had
    have hbj := hlb lst[j] (by simp)
    have hvj := hvb1.2 lst[j] (by simp)
    have hf1 : (rkR false ⟨n, l⟩).cells = [i16 n, .ro 9 false (l.map plA)] := rfl
    have hax : axA n l lst[j] = if (l.length : Int) = n then .tup [rkO false rk0, i64 ((0 : Nat) : Int), bo false] else .tup [rkO false ⟨n, adL n l lst[j]⟩, i64 (adM n l lst[j] : Nat), bo true] := rfl
    have hct := l05Added_ct ⟨n, l⟩ false lst[j] hVl hbl hbj
    rw [show axA (Rk.mk n l).pl (Rk.mk n l).bs lst[j] = axA n l lst[j] from rfl, hax] at hct
    repeat (refine Run.go rfl ?_)
    refine Run.val rfl rfl rfl (ValOk.idx (bkA lst[j]) rfl rfl rfl rfl rfl (by omega) (by simp [hlt])) rfl ?_
    by_cases h : (l.length : Int) = n
    · rw [if_pos h] at had hct
      refine Run.cs rfl hct (by rw [hf1, frzP]; rfl) (by simp only [AV.rf, AV.rfL, rk_rf]; rfl) ?_
      repeat (refine Run.go rfl ?_)
      refine Run.unagg 39 1 (39, 1) rfl rfl rfl ?_
      repeat (refine Run.go rfl ?_)
      refine Run.cond rfl (fun _ => ?_) (fun h => by cases h)
      repeat (refine Run.go rfl ?_)
      refine Run.val rfl rfl rfl (ValOk.build rfl rfl rfl rfl rfl) rfl ?_
      repeat (refine Run.go rfl ?_)
      refine Run.nilBox (4, 0) 1 9 false rfl rfl ?_
      refine Run.ret hg rfl ?_
      rw [had]
      rfl
    rw [if_neg h] at had hct
    obtain ⟨q1, q2, q3, q4⟩ := hVl.added (b := lst[j]) (by omega) hbl hbj hvj
    have q5 : ∀ x ∈ adL n l lst[j], bkRng x.b := fun x hx => by
      rcases q4 x hx with e | ⟨y, hy, e⟩
      · rw [e]; exact hbj
      · rw [e]; exact hbl y hy
    refine Run.cs rfl hct (by rw [hf1, frzP]; rfl) (by simp only [AV.rf, AV.rfL, rk_rf]; rfl) ?_
    repeat (refine Run.go rfl ?_)
    refine Run.unagg 39 1 (39, 1) rfl rfl rfl ?_
    repeat (refine Run.go rfl ?_)
    refine Run.cond rfl (fun h => by cases h) (fun _ => ?_)
    repeat (refine Run.go rfl ?_)
    refine Run.packBox (8, 0) 1 rfl rfl rfl rfl ?_
    refine Run.of (IH (j + 1, adL n l lst[j], s + adM n l lst[j]) ⟨hlt, q1, q5, by show s + adM n l lst[j] ≤ (j + 1) * 60; omega, had⟩ (by show lst.length - (j + 1) < lst.length - j; omega)) ⟨rfl, rfl, ?_, rfl, ?_, trivial⟩ ⟨rfl, rfl, trivial⟩
    · show i64 (IntKind.i64.wrap ((s : Int) + adM n l lst[j])) = i64 _
      rw [wrap_i64 (by omega) (by omega)]
      rfl
    · show i64 (IntKind.i64.wrap _) = i64 _
      rw [wrap_i64 (by omega) (by omega)]
      rfl
  · have hjl : j = lst.length := by simp at h; omega
    subst hjl
    rw [List.drop_length, adAll] at had
    repeat (refine Run.go rfl ?_)
    refine Run.unBox (8, 0) 1 (8, 1) rfl rfl rfl (by decide) ?_
    repeat (refine Run.go rfl ?_)
    refine Run.packBox (4, 0) 1 rfl rfl rfl rfl ?_
    refine Run.ret hg rfl ?_
    rw [had]
    rfl

end Go.Proofs.YtofakfkmglmhoaaGreat
