/- Contracts of the program's functions, and what follows from them. -/
import Derived.Test.YtofakfkmglmhoaaGreatK4
set_option linter.unusedVariables false
set_option maxRecDepth 100000
set_option linter.unusedSimpArgs false
namespace Go.Proofs.YtofakfkmglmhoaaGreat
open Go Go.Av

/-! Racks that grow: books added. -/

theorem shf_step {l : List Pl} {i j : Nat} {d : Int} (h : i + j + 1 ≤ l.length) : (shf l i j d).set (i + j) (mvP d (l[i + j]'(by omega))) = shf l i (j + 1) d := by
  have h1 := shf_len (l := l) (i := i) (c := j) (d := d) (by omega)
  have h2 := shf_len (l := l) (i := i) (c := j + 1) (d := d) (by omega)
  refine List.ext_getElem (by rw [List.length_set, h1, h2]) fun q hq hq2 => ?_
  rw [List.length_set, h1] at hq
  rw [List.getElem_set, shf_get (by omega) hq, shf_get (by omega) hq]
  by_cases e : i + j = q
  · subst e
    rw [if_pos rfl, if_pos (by omega)]
  · rw [if_neg e]
    by_cases e2 : i ≤ q ∧ q < i + j
    · rw [if_pos e2, if_pos (by omega)]
    · rw [if_neg e2, if_neg (by omega)]
theorem shf_zero (l : List Pl) (i : Nat) (d : Int) : shf l i 0 d = l := by simp [shf]
theorem shf_at {l : List Pl} {i j : Nat} {d : Int} (h : i + j < l.length) : (shf l i j d)[i + j]? = some l[i + j] := by
  rw [List.getElem?_eq_getElem (by rw [shf_len (by omega)]; exact h), shf_get (by omega) h, if_neg (by omega)]

noncomputable def X35 : Fx := ⟨Tryz.prog, tys, 35, Tryz.f35, [0, 1]⟩
theorem X35_ok : X35.Ok := ⟨Tryz.func35, tys_ok⟩
theorem added_ct (r : Rk) (ex : Bool) (b : Bk) (h : VR r.pl r.bs) (hf : (r.bs.length : Int) < r.pl) (hr : ∀ x ∈ r.bs, bkRng x.b) (hb : bkRng b) (hv : vB b = true) :
    Ct Tryz.prog 35 [rkR ex r, bkA b] (.tup [rkO false ⟨r.pl, adL r.pl r.bs b⟩, i64 (adM r.pl r.bs b : Nat)]) [] := by
  obtain ⟨n, l⟩ := r
  simp only at h hf hr
  have hlen := h.len
  have hn := h.hn
  have hlen1 : l.length ≤ 1048576 := by omega
  have hk := idx_le l b
  have hrm := h.rm0 hk
  show Ct Tryz.prog _ _ (.tup [rkO false ⟨n, ins (sh n l (idx l b)) (idx l b) (nat' n l (idx l b)) b⟩, i64 ((psh n l (idx l b)).1 : Nat)]) []
  refine Ct.intro X35 X35_ok rfl (by kernel_rfl) rfl rfl fun g hg => ?_
  repeat (refine Run.go rfl ?_)
  refine Run.cs rfl (rkIndex_ct ⟨n, l⟩ b ex hlen1) rfl rfl ?_
  repeat (refine Run.go rfl ?_)
  have hcs := psh_cases h hk hf
  have hnat : 0 ≤ nat' n l (idx l b) ∧ nat' n l (idx l b) < n := by
    unfold nat'
    rcases hcs with ⟨h0, hp⟩ | ⟨h0, c, hp, c1, c2, c3⟩ | ⟨h0, d, hp, d1, d2, d3⟩
    · rw [if_pos h0, Int.tdiv_eq_ediv_of_nonneg (by omega)]
      have htoo : fr l (idx l b) + rm n l (idx l b) = too n l (idx l b) := by unfold rm; omega
      omega
    · rw [if_neg (by omega), hp, if_pos rfl]
      have hfk : fr l (idx l b) = pa l (idx l b - 1) + 1 := by rw [fr, if_pos (by omega)]
      have := h.rng (idx l b - 1) (by omega)
      omega
    · rw [if_neg (by omega), hp]
      have htoo : too n l (idx l b) = pa l (idx l b) := by rw [too, if_pos (by omega)]
      have hfk : fr l (idx l b) = too n l (idx l b) := by unfold rm at h0; omega
      have := h.rng (idx l b) (by omega)
      show 0 ≤ fr l (idx l b) ∧ fr l (idx l b) < n
      omega
  have hshl : (sh n l (idx l b)).length = l.length := by
    unfold sh
    rcases hcs with ⟨h0, hp⟩ | ⟨h0, c, hp, c1, c2, c3⟩ | ⟨h0, d, hp, d1, d2, d3⟩
    · rw [if_pos h0]
    · rw [if_neg (by omega), hp, if_pos rfl]
      exact shf_len (by show idx l b - c + c ≤ _; omega)
    · rw [if_neg (by omega), hp]
      exact shf_len d2
  generalize idx l b = k at *
  have hrn : rm n l k ≤ n := by unfold rm; omega
  refine Run.cs rfl (room_ct ⟨n, l⟩ ex k h hk) rfl rfl ?_
  repeat (refine Run.go rfl ?_)
  refine Run.cs rfl (pushed_ct ⟨n, l⟩ ex k h hk) rfl rfl ?_
  repeat (refine Run.go rfl ?_)
  refine Run.drawI (fun D => ⟨[(2, .bp (2, 0) 0), (3, .bp (3, 0) 0), (4, .bp (4, 0) 0), (6, i64 (k : Nat)), (7, i64 (fr l k)), (8, i64 (rm n l k)), (9, i64 ((psh n l k).1 : Nat)), (10, bo (psh n l k).2), (30, bif D 0 then .bp (2, 0) 0 else .top), (31, bif D 1 then i16 n else .top), (32, bif D 2 then .bp (2, 0) 1 else .top), (33, bif D 3 then .ro 9 ex (l.map plA) else .top), (34, bif D 5 then .top else bif D 4 then .own 9 false (l.map plA) else .top), (35, bif D 5 then .agg [i16 n, .vec (34, 0) 0 (l.map plA).length] else .top), (11, bif D 6 then .bp (11, 0) 0 else .top)], [((2, 0), Ob.box (rkR ex ⟨n, l⟩).cells), ((3, 0), Ob.box (bkA b).cells), ((4, 0), Ob.box [i16 0, .lit (.slice none 0 0)]), ((11, 0), (bif D 7 then Ob.box [i16 n, .vec (34, 0) 0 (l.map plA).length] else (bif D 6 then Ob.box [i16 0, .lit (.slice none 0 0)] else Ob.gone))), ((34, 0), (bif D 5 then Ob.vec 9 false (l.map plA) else Ob.gone))]⟩) (by decide +kernel) (by decide +kernel) ?_ ?_ fun k' => ⟨?_, ?_, ?_, ?_, ?_, ?_, ?_, ?_, trivial⟩
  · exact St.Le.mk' ⟨rfl, rfl, rfl, rfl, rfl, rfl, rfl, rfl, rfl, rfl, rfl, rfl, rfl, rfl, rfl, trivial⟩ ⟨rfl, rfl, rfl, rfl, rfl, trivial⟩
  rotate_left
  · intro D hid h0 hp hs rest hK
    obtain ⟨d1, -⟩ : AllD D false [1] := ideal_sub hs (by decide +kernel)
    simp only [d1, h0, cond_true, cond_false]
    refine Run.go rfl ?_
    refine Run.le ?_ hK
    simp only [d1, h0, Nat.reduceBEq, Bool.false_or, Bool.true_or, cond_true, cond_false]
    exact St.Le.mk' ⟨rfl, rfl, rfl, rfl, rfl, rfl, rfl, rfl, rfl, rfl, rfl, rfl, rfl, rfl, rfl, trivial⟩ ⟨rfl, rfl, rfl, rfl, rfl, trivial⟩
  · intro D hid h0 hp hs rest hK
    obtain ⟨d0, -⟩ : AllD D true [0] := ideal_sub hp (by decide +kernel)
    obtain ⟨d5, -⟩ : AllD D false [5] := ideal_sub hs (by decide +kernel)
    simp only [d0, d5, h0, cond_true, cond_false]
    refine Run.go rfl ?_
    refine Run.le ?_ hK
    simp only [d0, d5, h0, Nat.reduceBEq, Bool.false_or, Bool.true_or, cond_true, cond_false]
    exact St.Le.mk' ⟨rfl, rfl, rfl, rfl, rfl, rfl, rfl, rfl, rfl, rfl, rfl, rfl, rfl, rfl, rfl, trivial⟩ ⟨rfl, rfl, rfl, rfl, rfl, trivial⟩
  · intro D hid h0 hp hs rest hK
    obtain ⟨d3, -⟩ : AllD D false [3] := ideal_sub hs (by decide +kernel)
    simp only [d3, h0, cond_true, cond_false]
    refine Run.go rfl ?_
    refine Run.le ?_ hK
    simp only [d3, h0, Nat.reduceBEq, Bool.false_or, Bool.true_or, cond_true, cond_false]
    exact St.Le.mk' ⟨rfl, rfl, rfl, rfl, rfl, rfl, rfl, rfl, rfl, rfl, rfl, rfl, rfl, rfl, rfl, trivial⟩ ⟨rfl, rfl, rfl, rfl, rfl, trivial⟩
  · intro D hid h0 hp hs rest hK
    obtain ⟨d2, -⟩ : AllD D true [2] := ideal_sub hp (by decide +kernel)
    obtain ⟨d4, -⟩ : AllD D false [4] := ideal_sub hs (by decide +kernel)
    simp only [d2, d4, h0, cond_true, cond_false]
    refine Run.go rfl ?_
    refine Run.le ?_ hK
    simp only [d2, d4, h0, Nat.reduceBEq, Bool.false_or, Bool.true_or, cond_true, cond_false]
    exact St.Le.mk' ⟨rfl, rfl, rfl, rfl, rfl, rfl, rfl, rfl, rfl, rfl, rfl, rfl, rfl, rfl, rfl, trivial⟩ ⟨rfl, rfl, rfl, rfl, rfl, trivial⟩
  · intro D hid h0 hp hs rest hK
    obtain ⟨d3, -⟩ : AllD D true [3] := ideal_sub hp (by decide +kernel)
    obtain ⟨d5, -⟩ : AllD D false [5] := ideal_sub hs (by decide +kernel)
    simp only [d3, d5, h0, cond_true, cond_false]
    refine Run.cs rfl (clonePl_ct l ex hlen1) rfl (rfP _) ?_
    refine Run.le ?_ hK
    simp only [d3, d5, h0, Nat.reduceBEq, Bool.false_or, Bool.true_or, cond_true, cond_false]
    exact St.Le.mk' ⟨rfl, rfl, rfl, rfl, rfl, rfl, rfl, rfl, rfl, rfl, rfl, rfl, rfl, rfl, rfl, trivial⟩ ⟨rfl, rfl, rfl, rfl, rfl, trivial⟩
  · intro D hid h0 hp hs rest hK
    obtain ⟨d1, d4, -⟩ : AllD D true [1, 4] := ideal_sub hp (by decide +kernel)
    obtain ⟨d7, -⟩ : AllD D false [7] := ideal_sub hs (by decide +kernel)
    simp only [d1, d4, d7, h0, cond_true, cond_false]
    refine Run.unpack 34 rfl (by cases D 0 <;> cases D 2 <;> cases D 3 <;> cases D 6 <;> rfl) ?_
    refine Run.val rfl rfl rfl (ValOk.build rfl rfl rfl rfl rfl) rfl ?_
    refine Run.forget 34 ?_
    refine Run.le ?_ hK
    simp only [d1, d4, d7, h0, Nat.reduceBEq, Bool.false_or, Bool.true_or, cond_true, cond_false]
    exact St.Le.mk' ⟨rfl, rfl, rfl, rfl, rfl, rfl, rfl, rfl, rfl, rfl, rfl, rfl, rfl, rfl, rfl, trivial⟩ ⟨rfl, rfl, rfl, rfl, rfl, trivial⟩
  · intro D hid h0 hp hs rest hK
    obtain ⟨d7, -⟩ : AllD D false [7] := ideal_sub hs (by decide +kernel)
    simp only [d7, h0, cond_true, cond_false]
    refine Run.alloc rfl rfl rfl rfl rfl rfl (by cases D 0 <;> cases D 1 <;> cases D 2 <;> cases D 3 <;> cases D 4 <;> cases D 5 <;> rfl) rfl ?_
    refine Run.le ?_ hK
    simp only [d7, h0, Nat.reduceBEq, Bool.false_or, Bool.true_or, cond_true, cond_false]
    exact St.Le.mk' ⟨rfl, rfl, rfl, rfl, rfl, rfl, rfl, rfl, rfl, rfl, rfl, rfl, rfl, rfl, rfl, trivial⟩ ⟨rfl, rfl, rfl, rfl, rfl, trivial⟩
  · intro D hid h0 hp hs rest hK
    obtain ⟨d5, d6, -⟩ : AllD D true [5, 6] := ideal_sub hp (by decide +kernel)
    simp only [d5, d6, h0, cond_true, cond_false]
    refine Run.go rfl ?_
    refine Run.le ?_ hK
    simp only [d5, d6, h0, Nat.reduceBEq, Bool.false_or, Bool.true_or, cond_true, cond_false]
    exact St.Le.mk' ⟨rfl, rfl, rfl, rfl, rfl, rfl, rfl, rfl, rfl, rfl, rfl, rfl, rfl, rfl, rfl, trivial⟩ ⟨rfl, rfl, rfl, rfl, rfl, trivial⟩
  repeat (refine Run.go rfl ?_)
  refine Run.condJ ⟨[(3, .bp (3, 0) 0), (4, .bp (4, 0) 0), (6, i64 (k : Nat)), (9, i64 ((psh n l k).1 : Nat)), (11, .bp (11, 0) 0), (12, i64 (nat' n l k))],
    [((3, 0), .box (bkA b).cells), ((4, 0), .box [i16 0, .lit (.slice none 0 0)]), ((11, 0), .box [i16 n, .vec (34, 0) 0 l.length]), ((34, 0), .vec 9 false ((sh n l k).map plA))]⟩ rfl (fun h0 k' hN => ?_) (fun h0 k' hN => ?_) ?_
  · have h0 : 0 < rm n l k := by simpa using h0
    have hw : IntKind.i64.wrap (rm n l k - 1) = rm n l k - 1 := wrap_i64 (by omega) (by omega)
    have hn' : nat' n l k = fr l k + (rm n l k - 1).tdiv 2 := by rw [nat', if_pos h0]
    have hs' : sh n l k = l := by rw [sh, if_pos h0]
    have hd : 0 ≤ (rm n l k - 1).tdiv 2 ∧ (rm n l k - 1).tdiv 2 ≤ n := by
      rw [Int.tdiv_eq_ediv_of_nonneg (by omega)]
      omega
    repeat (refine Run.go rfl ?_)
    refine Run.of hN ⟨rfl, rfl, rfl, rfl, rfl, ?_, trivial⟩ ⟨rfl, rfl, ?_, ?_, trivial⟩
    · show i64 (IntKind.i64.wrap (fr l k + IntKind.i64.wrap ((IntKind.i64.wrap (rm n l k - 1)).tdiv 2))) = i64 _
      rw [hw, wrap_i64 (n := Int.tdiv _ _) (by omega) (by omega), wrap_i64 (by omega) (by omega), hn']
    · show Ob.box [_, AV.vec _ _ (l.map plA).length] = _
      rw [List.length_map]
    · show Ob.vec _ _ _ = Ob.vec _ _ _
      rw [hs']
  have h0 : ¬ 0 < rm n l k := by simpa using h0
  repeat (refine Run.go rfl ?_)
  refine Run.cond rfl (fun h1 => ?_) (fun h1 => ?_)
  · have h1 : (psh n l k).2 = true := h1
    obtain ⟨c, hp, c1, c2, c3⟩ : ∃ c, psh n l k = (c, true) ∧ 1 ≤ c ∧ c ≤ k ∧ 0 < rm n l (k - c) := by
      rcases hcs with ⟨h0', hp⟩ | ⟨-, c, hp, c1, c2, c3⟩ | ⟨-, d, hp, d1, d2, d3⟩
      · omega
      · exact ⟨c, hp, c1, c2, c3⟩
      · rw [hp] at h1; cases h1
    have hn' : nat' n l k = fr l k - 1 := by rw [nat', if_neg h0, hp]; rfl
    have hs' : sh n l k = shf l (k - c) c (-1) := by rw [sh, if_neg h0, hp]; rfl
    rw [hn', hs', hp] at hN
    rw [hp]
    repeat (refine Run.go rfl ?_)
    refine Run.loop (fun j : Nat => ⟨[(3, .bp (3, 0) 0), (4, .bp (4, 0) 0), (6, i64 (k : Nat)), (7, i64 (fr l k)), (9, i64 (c : Nat)), (11, .bp (11, 0) 0), (13, i64 ((k - c + j : Nat) : Int))],
      [((3, 0), .box (bkA b).cells), ((4, 0), .box [i16 0, .lit (.slice none 0 0)]), ((11, 0), .box [i16 n, .vec (34, 0) 0 l.length]), ((34, 0), .vec 9 false ((shf l (k - c) j (-1)).map plA))]⟩) (fun j => j ≤ c) (fun j => c - j) 0 (by omega) ?_ ?_
    · refine St.Le.mk' ⟨rfl, rfl, rfl, rfl, rfl, rfl, ?_, trivial⟩ ⟨rfl, rfl, ?_, ?_, trivial⟩
      · show i64 (IntKind.i64.wrap ((k : Int) - c)) = i64 ((k - c + 0 : Nat) : Int)
        rw [wrap_i64 (by omega) (by omega), show ((k - c + 0 : Nat) : Int) = (k : Int) - c by omega]
      · show Ob.box [_, AV.vec _ _ (l.map plA).length] = _
        rw [List.length_map]
      · rw [shf_zero]
        rfl
    intro j hj IH
    repeat (refine Run.go rfl ?_)
    refine Run.cond rfl (fun h2 => ?_) (fun h2 => ?_)
    · have h2 : j < c := by simp at h2; omega
      have hil : k - c + j < l.length := by omega
      have hp0 := (h.i16 hil).2
      have hat := shf_at (d := -1) hil
      have hst := shf_step (l := l) (i := k - c) (j := j) (d := -1) (by omega)
      have hsl := shf_len (l := l) (i := k - c) (c := j) (d := -1) (by omega)
      have hge := h.ge (k - c + j) hil
      have hw16 : IntKind.i16.wrap (l[k - c + j].p - 1) = l[k - c + j].p - 1 := wrap_i16 (by omega) (by omega)
      generalize shf l (k - c) j (-1) = S at hat hst hsl
      have hat2 : (S.map plA)[0 + ((k - c + j : Nat) : Int).toNat]? = some (plA l[k - c + j]) := by
        rw [List.getElem?_map, Nat.zero_add, Int.toNat_natCast, hat]; rfl
      repeat (refine Run.go rfl ?_)
      refine Run.val rfl rfl rfl (ValOk.idxv (m := ((k - c + j : Nat) : Int)) rfl rfl rfl rfl rfl rfl (by omega) (by omega)) rfl ?_
      repeat (refine Run.go rfl ?_)
      refine Run.val rfl rfl rfl (ValOk.loadv (plA l[k - c + j]) rfl rfl rfl rfl hat2 rfl) rfl ?_
      repeat (refine Run.go rfl ?_)
      refine Run.val rfl rfl rfl (ValOk.idxv (m := ((k - c + j : Nat) : Int)) rfl rfl rfl rfl rfl rfl (by omega) (by omega)) rfl ?_
      repeat (refine Run.go rfl ?_)
      refine Run.storee (plA l[k - c + j]) (plA (mvP (-1) l[k - c + j])) rfl rfl rfl rfl rfl rfl rfl hat2 rfl rfl ?_ ?_
      · show plA ⟨IntKind.i16.wrap (l[k - c + j].p - 1), l[k - c + j].b⟩ = _
        rw [hw16]
        rfl
      repeat (refine Run.go rfl ?_)
      refine Run.of (IH (j + 1) (by omega) (by omega)) ⟨rfl, rfl, rfl, rfl, rfl, rfl, ?_, trivial⟩ ⟨rfl, rfl, rfl, ?_, trivial⟩
      · show i64 (IntKind.i64.wrap _) = i64 _
        rw [wrap_i64 (by omega) (by omega)]
        rfl
      · show Ob.vec _ _ _ = Ob.vec _ _ _
        rw [← hst, ← List.map_set, Nat.zero_add, Int.toNat_natCast]
    · have h2 : j = c := by simp at h2; omega
      subst h2
      repeat (refine Run.go rfl ?_)
      refine Run.of hN ⟨rfl, rfl, rfl, rfl, rfl, ?_, trivial⟩ ⟨rfl, rfl, rfl, rfl, trivial⟩
      show i64 (IntKind.i64.wrap (fr l k - 1)) = i64 _
      rw [wrap_i64 (by omega) (by omega)]
  · have h1 : (psh n l k).2 = false := h1
    obtain ⟨d, hp, d1, d2, d3⟩ : ∃ d, psh n l k = (d, false) ∧ 1 ≤ d ∧ k + d ≤ l.length ∧ 0 < rm n l (k + d) := by
      rcases hcs with ⟨h0', hp⟩ | ⟨-, c, hp, c1, c2, c3⟩ | ⟨-, d, hp, d1, d2, d3⟩
      · omega
      · rw [hp] at h1; cases h1
      · exact ⟨d, hp, d1, d2, d3⟩
    have hn' : nat' n l k = fr l k := by rw [nat', if_neg h0, hp]; rfl
    have hs' : sh n l k = shf l k d 1 := by rw [sh, if_neg h0, hp]; rfl
    rw [hn', hs', hp] at hN
    rw [hp]
    repeat (refine Run.go rfl ?_)
    refine Run.loop (fun j : Nat => ⟨[(3, .bp (3, 0) 0), (4, .bp (4, 0) 0), (6, i64 (k : Nat)), (9, i64 (d : Nat)), (11, .bp (11, 0) 0), (12, i64 (fr l k)), (14, i64 ((k + j : Nat) : Int))],
      [((3, 0), .box (bkA b).cells), ((4, 0), .box [i16 0, .lit (.slice none 0 0)]), ((11, 0), .box [i16 n, .vec (34, 0) 0 l.length]), ((34, 0), .vec 9 false ((shf l k j 1).map plA))]⟩) (fun j => j ≤ d) (fun j => d - j) 0 (by omega) ?_ ?_
    · refine St.Le.mk' ⟨rfl, rfl, rfl, rfl, rfl, rfl, rfl, trivial⟩ ⟨rfl, rfl, ?_, ?_, trivial⟩
      · show Ob.box [_, AV.vec _ _ (l.map plA).length] = _
        rw [List.length_map]
      · rw [shf_zero]
        rfl
    intro j hj IH
    have hwk : IntKind.i64.wrap ((k : Int) + d) = k + d := wrap_i64 (by omega) (by omega)
    repeat (refine Run.go rfl ?_)
    refine Run.cond rfl (fun h2 => ?_) (fun h2 => ?_)
    · have h2 : ((k + j : Nat) : Int) < IntKind.i64.wrap ((k : Int) + d) := by simpa using h2
      rw [hwk] at h2
      have h2 : j < d := by omega
      have hil : k + j < l.length := by omega
      have hp0 := (h.i16 hil).2
      have hat := shf_at (d := 1) hil
      have hst := shf_step (l := l) (i := k) (j := j) (d := 1) (by omega)
      have hsl := shf_len (l := l) (i := k) (c := j) (d := 1) (by omega)
      have hw16 : IntKind.i16.wrap (l[k + j].p + 1) = l[k + j].p + 1 := wrap_i16 (by omega) (by omega)
      generalize shf l k j 1 = S at hat hst hsl
      have hat2 : (S.map plA)[0 + ((k + j : Nat) : Int).toNat]? = some (plA l[k + j]) := by
        rw [List.getElem?_map, Nat.zero_add, Int.toNat_natCast, hat]; rfl
      repeat (refine Run.go rfl ?_)
      refine Run.val rfl rfl rfl (ValOk.idxv (m := ((k + j : Nat) : Int)) rfl rfl rfl rfl rfl rfl (by omega) (by omega)) rfl ?_
      repeat (refine Run.go rfl ?_)
      refine Run.val rfl rfl rfl (ValOk.loadv (plA l[k + j]) rfl rfl rfl rfl hat2 rfl) rfl ?_
      repeat (refine Run.go rfl ?_)
      refine Run.val rfl rfl rfl (ValOk.idxv (m := ((k + j : Nat) : Int)) rfl rfl rfl rfl rfl rfl (by omega) (by omega)) rfl ?_
      repeat (refine Run.go rfl ?_)
      refine Run.storee (plA l[k + j]) (plA (mvP 1 l[k + j])) rfl rfl rfl rfl rfl rfl rfl hat2 rfl rfl ?_ ?_
      · show plA ⟨IntKind.i16.wrap (l[k + j].p + 1), l[k + j].b⟩ = _
        rw [hw16]
        rfl
      repeat (refine Run.go rfl ?_)
      refine Run.of (IH (j + 1) (by omega) (by omega)) ⟨rfl, rfl, rfl, rfl, rfl, rfl, ?_, trivial⟩ ⟨rfl, rfl, rfl, ?_, trivial⟩
      · show i64 (IntKind.i64.wrap _) = i64 _
        rw [wrap_i64 (by omega) (by omega)]
        rfl
      · show Ob.vec _ _ _ = Ob.vec _ _ _
        rw [← hst, ← List.map_set, Nat.zero_add, Int.toNat_natCast]
    · have h2 : ¬ ((k + j : Nat) : Int) < IntKind.i64.wrap ((k : Int) + d) := by simpa using h2
      rw [hwk] at h2
      have h2 : j = d := by omega
      subst h2
      repeat (refine Run.go rfl ?_)
      exact Run.of hN ⟨rfl, rfl, rfl, rfl, rfl, rfl, trivial⟩ ⟨rfl, rfl, rfl, rfl, trivial⟩
  have hw16 : IntKind.i16.wrap (nat' n l k) = nat' n l k := wrap_i16 (by omega) (by omega)
  repeat (refine Run.go rfl ?_)
  refine Run.val rfl rfl rfl (ValOk.build rfl rfl rfl rfl rfl) rfl ?_
  refine Run.buildSlice [plA ⟨IntKind.i16.wrap (nat' n l k), b⟩] rfl rfl rfl rfl rfl rfl rfl rfl rfl rfl rfl rfl rfl rfl ?_
  refine Run.freeze (v' := .ro 9 true ([(⟨nat' n l k, b⟩ : Pl)].map plA)) 90 rfl rfl (by rw [hw16]; rfl) ?_
  refine Run.callg (34, 0) rfl rfl rfl rfl rfl rfl rfl rfl ?_ rfl rfl rfl (insert_pl_ct (sh n l k) [⟨nat' n l k, b⟩] false true k (by omega) (by simp; omega)) rfl ?_
  · show l.length = ((sh n l k).map plA).length
    rw [List.length_map, hshl]
  repeat (refine Run.go rfl ?_)
  refine Run.unpack 91 rfl rfl ?_
  repeat (refine Run.go rfl ?_)
  refine Run.packBox (4, 0) 1 rfl rfl rfl rfl ?_
  refine Run.ret hg rfl ?_
  rfl

def adAll (n : Int) : List Bk → List Pl → Nat → Rk × Nat × Int
  | [], l, s => (⟨n, l⟩, s, 0)
  | b :: r, l, s => if (l.length : Int) = n then (rk0, 0, 3) else adAll n r (adL n l b) (s + adM n l b)
def aaRes (r : Rk) (lst : List Bk) : Rk × Nat × Int := if vR r = true then (if vBs lst = true then adAll r.pl lst r.bs 0 else (rk0, 0, 1)) else (rk0, 0, 1)
def aaA (x : Rk × Nat × Int) : AV := .tup [rkO false x.1, i64 (x.2.1 : Nat), i64 x.2.2]

noncomputable def X12 : Fx := ⟨Tryz.prog, tys, 12, Tryz.f12, [0, 1]⟩
theorem X12_ok : X12.Ok := ⟨Tryz.func12, tys_ok⟩
theorem implAddAll_ct (r : Rk) (ex : Bool) (lst : List Bk) (e2 : Bool) (hr : rkOk r) (hlb : ∀ x ∈ lst, bkRng x) (hll : lst.length ≤ 1048576) : Ct Tryz.prog 12 [rkR ex r, .ro 8 e2 (lst.map bkA)] (aaA (aaRes r lst)) [] := by
  have hlen := hr.1.2
  refine Ct.intro X12 X12_ok rfl (by kernel_rfl) rfl rfl fun g hg => ?_
  repeat (refine Run.go rfl ?_)
  refine Run.cs rfl (implValidRack_ct r ex hr) rfl rfl ?_
  repeat (refine Run.go rfl ?_)
  refine Run.bool 16 rfl (fun h => ?_) (fun h => ?_)
  · have h : vR r = false := by simpa using h
    repeat (refine Run.go rfl ?_)
    refine Run.cond rfl (fun _ => ?_) (fun h => by simp at h)
    repeat (refine Run.go rfl ?_)
    refine Run.val rfl rfl rfl (ValOk.build rfl rfl rfl rfl rfl) rfl ?_
    repeat (refine Run.go rfl ?_)
    refine Run.nilBox (4, 0) 1 9 false rfl rfl ?_
    refine Run.ret hg rfl ?_
    rw [aaRes, if_neg (by rw [h]; decide)]
    rfl
  have hv : vR r = true := by simpa using h
  have hV := (vR_VR hr.2).1 hv
  repeat (refine Run.go rfl ?_)
  refine Run.cs rfl (validBooks_ct lst e2 hll) rfl rfl ?_
  repeat (refine Run.go rfl ?_)
  refine Run.cond rfl (fun h => ?_) (fun h => ?_)
  · have h : vBs lst = false := by simpa using h
    repeat (refine Run.go rfl ?_)
    refine Run.val rfl rfl rfl (ValOk.build rfl rfl rfl rfl rfl) rfl ?_
    repeat (refine Run.go rfl ?_)
    refine Run.nilBox (4, 0) 1 9 false rfl rfl ?_
    refine Run.ret hg rfl ?_
    rw [aaRes, if_pos hv, if_neg (by rw [h]; decide)]
    rfl
  have hvb : vBs lst = true := by simpa using h
  have hvb1 : lst.length ≤ 60 ∧ ∀ x ∈ lst, vB x = true := by simpa [vBs] using hvb
  have hbr : ∀ x ∈ r.bs, bkRng x.b := fun x hx => (hr.2 x hx).2
  rw [aaRes, if_pos hv, if_pos hvb] at hg
  obtain ⟨n, l0⟩ := r
  simp only at hV hbr hg
  have hn := hV.hn
  repeat (refine Run.go rfl ?_)
  refine Run.cs rfl (rkOwn_ct ⟨n, l0⟩ ex hlen) rfl (rk_rf _ _) ?_
  repeat (refine Run.go rfl ?_)
  refine Run.unagg 23 1 (23, 1) rfl rfl rfl ?_
  repeat (refine Run.go rfl ?_)
  refine Run.packBox (7, 0) 1 rfl rfl rfl rfl ?_
  repeat (refine Run.go rfl ?_)
  refine Run.loop (fun q : Nat × List Pl × Nat => ⟨[(4, .bp (4, 0) 0), (7, .bp (7, 0) 0), (8, i64 (q.2.2 : Nat)), (24, .ro 8 e2 (lst.map bkA)), (25, i64 lst.length), (26, i64 (q.1 : Nat))],
    [((4, 0), .box [i16 0, .lit (.slice none 0 0)]), ((7, 0), .box [i16 n, .own 9 false (q.2.1.map plA)])]⟩)
    (fun q => q.1 ≤ lst.length ∧ VR n q.2.1 ∧ (∀ x ∈ q.2.1, bkRng x.b) ∧ q.2.2 ≤ q.1 * 60 ∧ adAll n lst l0 0 = adAll n (lst.drop q.1) q.2.1 q.2.2) (fun q => lst.length - q.1) (0, l0, 0) ⟨by simp, hV, hbr, by simp, rfl⟩ ?_ ?_
  · refine St.Le.mk' ⟨rfl, rfl, rfl, rfl, ?_, rfl, trivial⟩ ⟨rfl, rfl, trivial⟩
    show i64 (lst.map bkA).length = _
    rw [List.length_map]
  rintro ⟨j, l, s⟩ ⟨hj, hVl, hbl, hs, had⟩ IH
  simp only at hj hVl hbl hs had IH
  have hlen := hVl.len
  repeat (refine Run.go rfl ?_)
  refine Run.cond rfl (fun h => ?_) (fun h => ?_)
  · have hlt : j < lst.length := by simpa using h
    rw [List.drop_eq_getElem_cons hlt, adAll] at had
    have hbj := hlb lst[j] (by simp)
    have hvj := hvb1.2 lst[j] (by simp)
    have hf1 : rkR false ⟨n, l⟩ = .agg [i16 n, .ro 9 false (l.map plA)] := rfl
    repeat (refine Run.go rfl ?_)
    refine Run.val rfl rfl rfl (ValOk.idx (bkA lst[j]) rfl rfl rfl rfl rfl (by omega) (by simp [hlt])) rfl ?_
    repeat (refine Run.go rfl ?_)
    refine Run.unBox (7, 0) 1 (7, 1) rfl rfl rfl (by decide) ?_
    repeat (refine Run.go rfl ?_)
    refine Run.cs rfl (isFull_ct ⟨n, l⟩ false (by show -32768 ≤ n ∧ n ≤ 32767; omega)) (by rw [hf1, frzP, decide_eq_true rfl]; rfl) rfl ?_
    repeat (refine Run.go rfl ?_)
    refine Run.cond rfl (fun h => ?_) (fun h => ?_)
    · have h : (l.length : Int) = n := by simpa using h
      rw [if_pos h] at had
      repeat (refine Run.go rfl ?_)
      refine Run.val rfl rfl rfl (ValOk.build rfl rfl rfl rfl rfl) rfl ?_
      repeat (refine Run.go rfl ?_)
      refine Run.nilBox (4, 0) 1 9 false rfl rfl ?_
      refine Run.ret hg rfl ?_
      rw [had]
      rfl
    have h : ¬ (l.length : Int) = n := by simpa using h
    rw [if_neg h] at had
    obtain ⟨q1, q2, q3, q4⟩ := hVl.added (b := lst[j]) (by omega) hbl hbj hvj
    have q5 : ∀ x ∈ adL n l lst[j], bkRng x.b := fun x hx => by
      rcases q4 x hx with e | ⟨y, hy, e⟩
      · rw [e]; exact hbj
      · rw [e]; exact hbl y hy
    repeat (refine Run.go rfl ?_)
    refine Run.cs rfl (added_ct ⟨n, l⟩ false lst[j] hVl (by show (l.length : Int) < n; omega) hbl hbj hvj) (by rw [hf1, frzP, decide_eq_true rfl]; rfl) (by simp only [AV.rf, AV.rfL, rk_rf]; rfl) ?_
    repeat (refine Run.go rfl ?_)
    refine Run.unagg 37 1 (37, 1) rfl rfl rfl ?_
    repeat (refine Run.go rfl ?_)
    refine Run.packBox (7, 0) 1 rfl rfl rfl rfl ?_
    refine Run.of (IH (j + 1, adL n l lst[j], s + adM n l lst[j]) ⟨hlt, q1, q5, by show s + adM n l lst[j] ≤ (j + 1) * 60; omega, had⟩ (by show lst.length - (j + 1) < lst.length - j; omega)) ⟨rfl, rfl, ?_, rfl, rfl, ?_, trivial⟩ ⟨rfl, rfl, trivial⟩
    · show i64 (IntKind.i64.wrap ((s : Int) + adM n l lst[j])) = i64 _
      rw [wrap_i64 (by omega) (by omega)]
      rfl
    · show i64 (IntKind.i64.wrap _) = i64 _
      rw [wrap_i64 (by omega) (by omega)]
      rfl
  · have hjl : j = lst.length := by simp at h; omega
    subst hjl
    rw [List.drop_length, adAll] at had
    repeat (refine Run.go rfl ?_)
    refine Run.unBox (7, 0) 1 (7, 1) rfl rfl rfl (by decide) ?_
    repeat (refine Run.go rfl ?_)
    refine Run.packBox (4, 0) 1 rfl rfl rfl rfl ?_
    refine Run.ret hg rfl ?_
    rw [had]
    rfl

end Go.Proofs.YtofakfkmglmhoaaGreat
