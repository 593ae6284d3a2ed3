/- Parts of a proof, in one text: K44, K45, K46. -/
import Derived.Test.YtbkelajnngdimaaGreatDoorMK
import Derived.Test.YtbkelajnngdimaaGreatDoorME
import Derived.Test.YtbkelajnngdimaaGreatDoorMH
import Derived.Test.YtbkelajnngdimaaGreatDoorMJ
import Derived.Test.YtbkelajnngdimaaGreatDoorMI
set_option linter.unusedVariables false

/- Contracts of the program's functions, and what follows from them. -/
set_option maxRecDepth 100000
namespace Go.Proofs.YtbkelajnngdimaaGreatDoor
open Go Go.Av
noncomputable def X24 : Fx := ⟨Tryz.prog, tys, 24, Tryz.f24, [0]⟩
theorem X24_ok : X24.Ok := ⟨Tryz.func24, tys_ok⟩
set_option maxHeartbeats 1000000 in
theorem MoveApart_ct (n : Int) (l m : List Pl) (e1 e2 : Bool) (h : VR n l) (h2 : VR n m) (hr : ∀ x ∈ l, bkRng x.b) (hr2 : ∀ x ∈ m, bkRng x.b) (hp : pbs m = pbs l) :
    Ct Tryz.prog 24 [rkR e1 ⟨n, l⟩, rkR e2 ⟨n, m⟩] (.tup [i64 (apt l m l.length), i64 0]) [] := by
  have cV := implValidRack_ct ⟨n, l⟩ e1 (h.ok hr).1
  rw [(h.ok hr).2] at cV
  have cV2 := implValidRack_ct ⟨n, m⟩ e2 (h2.ok hr2).1
  rw [(h2.ok hr2).2] at cV2
  have hlen := h.len
  have hn := h.hn
  have hml : m.length = l.length := by rw [← pbs_len, hp, pbs_len]
  have cB1 := rkBooks_ct ⟨n, l⟩ e1 (by show l.length ≤ _; omega)
  have cB2 := rkBooks_ct ⟨n, m⟩ e2 (by show m.length ≤ _; omega)
  simp only at cB1 cB2
  rw [hp] at cB2
  have hpr : (pbs l).length ≤ 1048576 ∧ ∀ x ∈ pbs l, bkRng x := ⟨by rw [pbs_len]; omega, fun x hx => by
    obtain ⟨y, hy, rfl⟩ := List.mem_map.1 hx
    exact hr y hy⟩
  have cS := sameBooks_ct (pbs l) (pbs l) false false hpr hpr
  rw [decide_eq_true rfl] at cS
  have hlm : ((l.map plA).length : Nat) = l.length := List.length_map ..
  have hab : ∀ j, j ≤ l.length → 0 ≤ apt l m j ∧ apt l m j ≤ 60 * (j : Int) := fun j => by
    induction j with
    | zero => intro _; exact ⟨Int.le_refl _, Int.le_refl _⟩
    | succ j ih =>
      intro hj
      have := ih (by omega)
      have g1 := h.rng j (by omega)
      have g2 := h2.rng j (by omega)
      rw [apt]
      omega
  refine Ct.intro X24 X24_ok rfl (by kernel_rfl) rfl rfl fun g hg => ?_
  repeat (refine Run.go rfl ?_)
  refine Run.cs rfl cV rfl rfl ?_
  repeat (refine Run.go rfl ?_)
  refine Run.cs rfl cV2 rfl rfl ?_
  repeat (refine Run.go rfl ?_)
  refine Run.cond rfl (fun h => by simp at h) (fun _ => ?_)
  iterate 1 (refine Run.go rfl ?_)
  refine Run.drawn [[0, 1, 2, 3, 4, 5, 6], [0, 2, 1, 3, 4, 5, 6], [2, 0, 1, 3, 4, 5, 6]]
    ⟨[(2, .bp (2, 0) 0), (3, .bp (3, 0) 0), (19, bo false)], [((2, 0), .box (rkR e1 ⟨n, l⟩).cells), ((3, 0), .box (rkR e2 ⟨n, m⟩).cells)]⟩ (by decide +kernel) (by kernel_rfl) ?_ fun _ hN => ⟨?_, ?_, ?_, trivial⟩
  rotate_left
  iterate 3
    · repeat (refine Run.go rfl ?_)
      refine Run.cs rfl cB1 rfl (rfB _) ?_
      repeat (refine Run.go rfl ?_)
      refine Run.cs rfl cB2 rfl (rfB _) ?_
      refine Run.cs rfl cS (by rw [frzB]) rfl ?_
      repeat (refine Run.go rfl ?_)
      exact Run.of hN ⟨rfl, rfl, rfl, trivial⟩ ⟨rfl, rfl, trivial⟩
  refine Run.cond rfl (fun h => by simp at h) (fun _ => ?_)
  repeat (refine Run.go rfl ?_)
  refine Run.loop (fun j : Nat => ⟨[(3, .bp (3, 0) 0), (6, i64 (apt l m j)), (27, .ro 9 e1 (l.map plA)), (28, i64 l.length), (29, i64 (j : Nat))], [((3, 0), .box (rkR e2 ⟨n, m⟩).cells)]⟩) (fun j => j ≤ l.length) (fun j => l.length - j) 0 (Nat.zero_le _) ?_ ?_
  · refine St.Le.mk' ⟨rfl, rfl, rfl, ?_, rfl, trivial⟩ ⟨rfl, trivial⟩
    show i64 ((l.map plA).length : Nat) = _
    rw [hlm]
  intro j hj IH
  repeat (refine Run.go rfl ?_)
  refine Run.cond rfl (fun hc0 => ?_) (fun hc0 => ?_)
  · have hlt : j < l.length := by have := of_decide_eq_true hc0; omega
    have hlt2 : j < m.length := by omega
    have g1 := h.rng j hlt
    have g2 := h2.rng j hlt2
    have hst : apt l m (j + 1) = apt l m j + max (pa l j - pa m j) (-(pa l j - pa m j)) := rfl
    have hb := hab j (by omega)
    rw [pa_get hlt, pa_get hlt2] at hst
    rw [pa_get hlt] at g1
    rw [pa_get hlt2] at g2
    have hat : (l.map plA)[((j : Nat) : Int).toNat]? = some (plA l[j]) := by rw [Int.toNat_natCast, List.getElem?_map, List.getElem?_eq_getElem hlt]; rfl
    have hat2 : (m.map plA)[((j : Nat) : Int).toNat]? = some (plA m[j]) := by rw [Int.toNat_natCast, List.getElem?_map, List.getElem?_eq_getElem hlt2]; rfl
    repeat (refine Run.go rfl ?_)
    refine Run.val rfl rfl rfl (ValOk.idx (plA l[j]) rfl rfl rfl rfl rfl (by omega) hat) rfl ?_
    repeat (refine Run.go rfl ?_)
    refine Run.draw (by kernel_rfl) (by decide +kernel) ?_
    repeat (refine Quiet.go rfl ?_)
    refine Quiet.cs rfl rfl rfl rfl rfl (place_ct l[j] (by unfold i16r; omega)) rfl rfl ?_
    repeat (refine Quiet.go rfl ?_)
    refine Quiet.val rfl rfl (ValOk.idx (plA m[j]) rfl rfl rfl rfl rfl (by omega) hat2) rfl ?_
    repeat (refine Quiet.go rfl ?_)
    refine Quiet.cs rfl rfl rfl rfl rfl (place_ct m[j] (by unfold i16r; omega)) rfl rfl ?_
    repeat (refine Quiet.go rfl ?_)
    refine Quiet.nil ?_
    repeat (refine Run.go rfl ?_)
    refine Run.of (IH (j + 1) (by omega) (by omega)) ⟨rfl, ?_, rfl, rfl, ?_, trivial⟩ ⟨rfl, trivial⟩
    · rw [hst]
      generalize l[j].p = x at *
      generalize m[j].p = y at *
      show i64 (IntKind.i64.wrap (apt l m j + (if IntKind.i64.wrap (0 - (IntKind.i64.wrap (x - y))) > IntKind.i64.wrap (x - y) then IntKind.i64.wrap (0 - (IntKind.i64.wrap (x - y))) else IntKind.i64.wrap (x - y)))) = _
      rw [wrap_i64 (n := x - y) (by omega) (by omega), wrap_i64 (n := 0 - (x - y)) (by omega) (by omega)]
      have : (if 0 - (x - y) > x - y then 0 - (x - y) else x - y) = max (x - y) (-(x - y)) := by split <;> omega
      rw [this, wrap_i64 (by omega) (by omega)]
    · show i64 _ = _
      rw [wrap_i64 (by omega) (by omega)]
      rfl
  · have hj' : j = l.length := by have := of_decide_eq_false hc0; omega
    subst hj'
    repeat (refine Run.go rfl ?_)
    exact Run.ret hg rfl rfl
def splA (n t : Int) (l : List Pl) : AV := if 1 ≤ t ∧ t ≤ n - 1 then .tup [rkO false ⟨t, spL l t⟩, rkO false ⟨n - t, spR l t⟩, i64 0] else .tup [rkO false rk0, rkO false rk0, i64 2]
theorem spL_snoc {l : List Pl} {t : Int} {j : Nat} (h : j < l.length) : spL (l.take (j + 1)) t = if l[j].p < t then spL (l.take j) t ++ [l[j]] else spL (l.take j) t := by
  unfold spL
  rw [List.take_succ_eq_append_getElem h, List.filter_append]
  by_cases e : l[j].p < t <;> simp [e]
theorem spR_snoc {l : List Pl} {t : Int} {j : Nat} (h : j < l.length) : spR (l.take (j + 1)) t = if l[j].p < t then spR (l.take j) t else spR (l.take j) t ++ [⟨l[j].p - t, l[j].b⟩] := by
  unfold spR
  rw [List.take_succ_eq_append_getElem h, List.filter_append, List.map_append]
  by_cases e : l[j].p < t
  · simp [e]
  · simp [e, mvP, Int.sub_eq_add_neg]
theorem spL_len (l : List Pl) (t : Int) : (spL l t).length ≤ l.length := List.length_filter_le _ _
theorem spR_len (l : List Pl) (t : Int) : (spR l t).length ≤ l.length := by
  unfold spR
  rw [List.length_map]
  exact List.length_filter_le _ _
theorem split_in {n t : Int} (hn : 1 ≤ n ∧ n ≤ 60) : inr t 1 (n - 1) = decide (1 ≤ t ∧ t ≤ n - 1) := by
  unfold inr
  rw [Bool.eq_iff_iff]
  simp
noncomputable def X29 : Fx := ⟨Tryz.prog, tys, 29, Tryz.f29, [0, 1]⟩
theorem X29_ok : X29.Ok := ⟨Tryz.func29, tys_ok⟩
set_option maxHeartbeats 2000000 in
theorem implSplitRack_ct (n t : Int) (l : List Pl) (e : Bool) (h : VR n l) (hr : ∀ x ∈ l, bkRng x.b) : Ct Tryz.prog 29 [rkR e ⟨n, l⟩, i64 t] (splA n t l) [] := by
  have cV := implValidRack_ct ⟨n, l⟩ e (h.ok hr).1
  rw [(h.ok hr).2] at cV
  have hlen := h.len
  have hn := h.hn
  have hlm : ((l.map plA).length : Nat) = l.length := List.length_map ..
  have hw1 : IntKind.i64.wrap n = n := wrap_i64 (by omega) (by omega)
  have hw2 : IntKind.i64.wrap (n - 1) = n - 1 := wrap_i64 (by omega) (by omega)
  refine Ct.intro X29 X29_ok rfl (by kernel_rfl) rfl rfl fun g hg => ?_
  iterate 3 (refine Run.go rfl ?_)
  refine Run.freezeBox 2 (2, 0) (rkR e ⟨n, l⟩).cells rfl rfl rfl rfl ?_
  repeat (refine Run.go rfl ?_)
  refine Run.cs rfl cV rfl rfl ?_
  repeat (refine Run.go rfl ?_)
  refine Run.cond rfl (fun h => by simp at h) (fun _ => ?_)
  repeat (refine Run.go rfl ?_)
  refine Run.cs rfl (within64_ct t 1 (n - 1)) (by show [i64 _, i64 _, i64 _] = _; rw [hw1, hw2]) rfl ?_
  rw [split_in hn]
  repeat (refine Run.go rfl ?_)
  refine Run.cond rfl (fun hc0 => ?_) (fun hc0 => ?_)
  · have hc0 : (!decide (1 ≤ t ∧ t ≤ n - 1)) = true := hc0
    rw [Bool.not_eq_true'] at hc0
    rw [splA, if_neg (of_decide_eq_false hc0)] at hg
    repeat (refine Run.go rfl ?_)
    refine Run.val rfl rfl rfl (ValOk.build rfl rfl rfl rfl rfl) rfl ?_
    refine Run.val rfl rfl rfl (ValOk.build rfl rfl rfl rfl rfl) rfl ?_
    repeat (refine Run.go rfl ?_)
    refine Run.nilBox (4, 0) 1 9 false rfl rfl ?_
    refine Run.nilBox (5, 0) 1 9 false rfl rfl ?_
    exact Run.ret hg rfl rfl
  have hc0 : (!decide (1 ≤ t ∧ t ≤ n - 1)) = false := hc0
  rw [Bool.not_eq_false'] at hc0
  have ht := of_decide_eq_true hc0
  rw [splA, if_pos ht] at hg
  have ht16 : IntKind.i16.wrap t = t := wrap_i16 (by omega) (by omega)
  have hnt16 : IntKind.i16.wrap (n - t) = n - t := wrap_i16 (by omega) (by omega)
  repeat (refine Run.go rfl ?_)
  refine Run.drawI (fun D => ⟨[(2, .rp (rkR e ⟨n, l⟩).cells 0), (4, .bp (4, 0) 0), (5, .bp (5, 0) 0), (1, i64 t), (27, bif D 0 then i64 t else .top), (28, bif D 1 then i16 t else .top), (29, bif D 2 then .agg [i16 t, .lit (.slice none 0 0)] else .top), (30, bif D 3 then .rp (rkR e ⟨n, l⟩).cells 0 else .top), (31, bif D 4 then i16 n else .top), (32, bif D 5 then i64 t else .top), (33, bif D 6 then i16 t else .top), (34, bif D 7 then i16 (n - t) else .top), (35, bif D 8 then .agg [i16 (n - t), .lit (.slice none 0 0)] else .top), (7, bif D 9 then .bp (7, 0) 0 else .top), (8, bif D 10 then .bp (8, 0) 0 else .top)], [((4, 0), Ob.box [i16 0, .lit (.slice none 0 0)]), ((5, 0), Ob.box [i16 0, .lit (.slice none 0 0)]), ((7, 0), (bif D 11 then Ob.box [i16 t, .lit (.slice none 0 0)] else (bif D 9 then Ob.box [i16 0, .lit (.slice none 0 0)] else Ob.gone))), ((8, 0), (bif D 12 then Ob.box [i16 (n - t), .lit (.slice none 0 0)] else (bif D 10 then Ob.box [i16 0, .lit (.slice none 0 0)] else Ob.gone)))]⟩) (by decide +kernel) (by decide +kernel) ?_ ?_ fun k' => ⟨?_, ?_, ?_, ?_, ?_, ?_, ?_, ?_, ?_, ?_, ?_, ?_, ?_, trivial⟩
  · exact St.Le.mk' ⟨rfl, rfl, rfl, rfl, rfl, rfl, rfl, rfl, rfl, rfl, rfl, rfl, rfl, rfl, rfl, trivial⟩ ⟨rfl, rfl, rfl, rfl, trivial⟩
  rotate_left
  · intro D hid h0 hp hs rest hK
    obtain ⟨d1, -⟩ : AllD D false [1] := ideal_sub hs (by decide +kernel)
    simp only [d1, h0, cond_true, cond_false]
    refine Run.go rfl ?_
    refine Run.le ?_ hK
    simp only [d1, h0, Nat.reduceBEq, Bool.false_or, Bool.true_or, cond_true, cond_false]
    exact St.Le.mk' ⟨rfl, rfl, rfl, rfl, rfl, rfl, rfl, rfl, rfl, rfl, rfl, rfl, rfl, rfl, rfl, trivial⟩ ⟨rfl, rfl, rfl, rfl, trivial⟩
  · intro D hid h0 hp hs rest hK
    obtain ⟨d0, -⟩ : AllD D true [0] := ideal_sub hp (by decide +kernel)
    obtain ⟨d2, -⟩ : AllD D false [2] := ideal_sub hs (by decide +kernel)
    simp only [d0, d2, h0, cond_true, cond_false]
    refine Run.go rfl ?_
    rw [ht16]
    refine Run.le ?_ hK
    simp only [d0, d2, h0, Nat.reduceBEq, Bool.false_or, Bool.true_or, cond_true, cond_false]
    exact St.Le.mk' ⟨rfl, rfl, rfl, rfl, rfl, rfl, rfl, rfl, rfl, rfl, rfl, rfl, rfl, rfl, rfl, trivial⟩ ⟨rfl, rfl, rfl, rfl, trivial⟩
  · intro D hid h0 hp hs rest hK
    obtain ⟨d1, -⟩ : AllD D true [1] := ideal_sub hp (by decide +kernel)
    obtain ⟨d11, -⟩ : AllD D false [11] := ideal_sub hs (by decide +kernel)
    simp only [d1, d11, h0, cond_true, cond_false]
    refine Run.val rfl rfl rfl (ValOk.build rfl rfl rfl rfl rfl) rfl ?_
    refine Run.le ?_ hK
    simp only [d1, d11, h0, Nat.reduceBEq, Bool.false_or, Bool.true_or, cond_true, cond_false]
    exact St.Le.mk' ⟨rfl, rfl, rfl, rfl, rfl, rfl, rfl, rfl, rfl, rfl, rfl, rfl, rfl, rfl, rfl, trivial⟩ ⟨rfl, rfl, rfl, rfl, trivial⟩
  · intro D hid h0 hp hs rest hK
    obtain ⟨d4, -⟩ : AllD D false [4] := ideal_sub hs (by decide +kernel)
    simp only [d4, h0, cond_true, cond_false]
    refine Run.go rfl ?_
    refine Run.le ?_ hK
    simp only [d4, h0, Nat.reduceBEq, Bool.false_or, Bool.true_or, cond_true, cond_false]
    exact St.Le.mk' ⟨rfl, rfl, rfl, rfl, rfl, rfl, rfl, rfl, rfl, rfl, rfl, rfl, rfl, rfl, rfl, trivial⟩ ⟨rfl, rfl, rfl, rfl, trivial⟩
  · intro D hid h0 hp hs rest hK
    obtain ⟨d3, -⟩ : AllD D true [3] := ideal_sub hp (by decide +kernel)
    obtain ⟨d7, -⟩ : AllD D false [7] := ideal_sub hs (by decide +kernel)
    simp only [d3, d7, h0, cond_true, cond_false]
    refine Run.go rfl ?_
    refine Run.le ?_ hK
    simp only [d3, d7, h0, Nat.reduceBEq, Bool.false_or, Bool.true_or, cond_true, cond_false]
    exact St.Le.mk' ⟨rfl, rfl, rfl, rfl, rfl, rfl, rfl, rfl, rfl, rfl, rfl, rfl, rfl, rfl, rfl, trivial⟩ ⟨rfl, rfl, rfl, rfl, trivial⟩
  · intro D hid h0 hp hs rest hK
    obtain ⟨d6, -⟩ : AllD D false [6] := ideal_sub hs (by decide +kernel)
    simp only [d6, h0, cond_true, cond_false]
    refine Run.go rfl ?_
    refine Run.le ?_ hK
    simp only [d6, h0, Nat.reduceBEq, Bool.false_or, Bool.true_or, cond_true, cond_false]
    exact St.Le.mk' ⟨rfl, rfl, rfl, rfl, rfl, rfl, rfl, rfl, rfl, rfl, rfl, rfl, rfl, rfl, rfl, trivial⟩ ⟨rfl, rfl, rfl, rfl, trivial⟩
  · intro D hid h0 hp hs rest hK
    obtain ⟨d5, -⟩ : AllD D true [5] := ideal_sub hp (by decide +kernel)
    obtain ⟨d7, -⟩ : AllD D false [7] := ideal_sub hs (by decide +kernel)
    simp only [d5, d7, h0, cond_true, cond_false]
    refine Run.go rfl ?_
    rw [ht16]
    refine Run.le ?_ hK
    simp only [d5, d7, h0, Nat.reduceBEq, Bool.false_or, Bool.true_or, cond_true, cond_false]
    exact St.Le.mk' ⟨rfl, rfl, rfl, rfl, rfl, rfl, rfl, rfl, rfl, rfl, rfl, rfl, rfl, rfl, rfl, trivial⟩ ⟨rfl, rfl, rfl, rfl, trivial⟩
  · intro D hid h0 hp hs rest hK
    obtain ⟨d4, d6, -⟩ : AllD D true [4, 6] := ideal_sub hp (by decide +kernel)
    obtain ⟨d8, -⟩ : AllD D false [8] := ideal_sub hs (by decide +kernel)
    simp only [d4, d6, d8, h0, cond_true, cond_false]
    refine Run.go rfl ?_
    rw [hnt16]
    refine Run.le ?_ hK
    simp only [d4, d6, d8, h0, Nat.reduceBEq, Bool.false_or, Bool.true_or, cond_true, cond_false]
    exact St.Le.mk' ⟨rfl, rfl, rfl, rfl, rfl, rfl, rfl, rfl, rfl, rfl, rfl, rfl, rfl, rfl, rfl, trivial⟩ ⟨rfl, rfl, rfl, rfl, trivial⟩
  · intro D hid h0 hp hs rest hK
    obtain ⟨d7, -⟩ : AllD D true [7] := ideal_sub hp (by decide +kernel)
    obtain ⟨d12, -⟩ : AllD D false [12] := ideal_sub hs (by decide +kernel)
    simp only [d7, d12, h0, cond_true, cond_false]
    refine Run.val rfl rfl rfl (ValOk.build rfl rfl rfl rfl rfl) rfl ?_
    refine Run.le ?_ hK
    simp only [d7, d12, h0, Nat.reduceBEq, Bool.false_or, Bool.true_or, cond_true, cond_false]
    exact St.Le.mk' ⟨rfl, rfl, rfl, rfl, rfl, rfl, rfl, rfl, rfl, rfl, rfl, rfl, rfl, rfl, rfl, trivial⟩ ⟨rfl, rfl, rfl, rfl, trivial⟩
  · intro D hid h0 hp hs rest hK
    obtain ⟨d11, -⟩ : AllD D false [11] := ideal_sub hs (by decide +kernel)
    simp only [d11, h0, cond_true, cond_false]
    refine Run.alloc rfl rfl rfl rfl rfl rfl (by simp only [St.nrf, List.all_cons, List.all_nil, Bool.and_eq_true, Bool.and_true]; repeat' apply And.intro; all_goals (repeat' (first | rfl | refine nrf_bif ?_ ?_ | refine nrfO_bif ?_ ?_))) rfl ?_
    refine Run.le ?_ hK
    simp only [d11, h0, Nat.reduceBEq, Bool.false_or, Bool.true_or, cond_true, cond_false]
    exact St.Le.mk' ⟨rfl, rfl, rfl, rfl, rfl, rfl, rfl, rfl, rfl, rfl, rfl, rfl, rfl, rfl, rfl, trivial⟩ ⟨rfl, rfl, rfl, rfl, trivial⟩
  · intro D hid h0 hp hs rest hK
    obtain ⟨d11, d12, -⟩ : AllD D false [11, 12] := ideal_sub hs (by decide +kernel)
    simp only [d11, d12, h0, cond_true, cond_false]
    refine Run.alloc rfl rfl rfl rfl rfl rfl (by simp only [St.nrf, List.all_cons, List.all_nil, Bool.and_eq_true, Bool.and_true]; repeat' apply And.intro; all_goals (repeat' (first | rfl | refine nrf_bif ?_ ?_ | refine nrfO_bif ?_ ?_))) rfl ?_
    refine Run.le ?_ hK
    simp only [d11, d12, h0, Nat.reduceBEq, Bool.false_or, Bool.true_or, cond_true, cond_false]
    exact St.Le.mk' ⟨rfl, rfl, rfl, rfl, rfl, rfl, rfl, rfl, rfl, rfl, rfl, rfl, rfl, rfl, rfl, trivial⟩ ⟨rfl, rfl, rfl, rfl, trivial⟩
  · intro D hid h0 hp hs rest hK
    obtain ⟨d2, d9, d10, -⟩ : AllD D true [2, 9, 10] := ideal_sub hp (by decide +kernel)
    obtain ⟨d12, -⟩ : AllD D false [12] := ideal_sub hs (by decide +kernel)
    simp only [d2, d9, d10, d12, h0, cond_true, cond_false]
    refine Run.go rfl ?_
    refine Run.le ?_ hK
    simp only [d2, d9, d10, d12, h0, Nat.reduceBEq, Bool.false_or, Bool.true_or, cond_true, cond_false]
    exact St.Le.mk' ⟨rfl, rfl, rfl, rfl, rfl, rfl, rfl, rfl, rfl, rfl, rfl, rfl, rfl, rfl, rfl, trivial⟩ ⟨rfl, rfl, rfl, rfl, trivial⟩
  · intro D hid h0 hp hs rest hK
    obtain ⟨d8, d10, d11, -⟩ : AllD D true [8, 10, 11] := ideal_sub hp (by decide +kernel)
    simp only [d8, d10, d11, h0, cond_true, cond_false]
    refine Run.go rfl ?_
    refine Run.le ?_ hK
    simp only [d8, d10, d11, h0, Nat.reduceBEq, Bool.false_or, Bool.true_or, cond_true, cond_false]
    exact St.Le.mk' ⟨rfl, rfl, rfl, rfl, rfl, rfl, rfl, rfl, rfl, rfl, rfl, rfl, rfl, rfl, rfl, trivial⟩ ⟨rfl, rfl, rfl, rfl, trivial⟩
  refine Run.nilBox (7, 0) 1 9 false rfl rfl ?_
  refine Run.nilBox (8, 0) 1 9 false rfl rfl ?_
  repeat (refine Run.go rfl ?_)
  refine Run.loop (fun j : Nat => ⟨[(4, .bp (4, 0) 0), (5, .bp (5, 0) 0), (7, .bp (7, 0) 0), (8, .bp (8, 0) 0), (37, .ro 9 e (l.map plA)), (38, i64 l.length), (39, i64 (j : Nat))],
    [((4, 0), .box [i16 0, .lit (.slice none 0 0)]), ((5, 0), .box [i16 0, .lit (.slice none 0 0)]), ((7, 0), .box [i16 t, .own 9 false ((spL (l.take j) t).map plA)]), ((8, 0), .box [i16 (n - t), .own 9 false ((spR (l.take j) t).map plA)])]⟩) (fun j => j ≤ l.length) (fun j => l.length - j) 0 (Nat.zero_le _) ?_ ?_
  · refine St.Le.mk' ⟨rfl, rfl, rfl, rfl, rfl, ?_, rfl, trivial⟩ ⟨rfl, rfl, rfl, rfl, trivial⟩
    show i64 ((l.map plA).length : Nat) = _
    rw [hlm]
  intro j hj IH
  repeat (refine Run.go rfl ?_)
  refine Run.cond rfl (fun hc0 => ?_) (fun hc0 => ?_)
  · have hlt : j < l.length := by have := of_decide_eq_true hc0; omega
    have g1 := h.rng j hlt
    rw [pa_get hlt] at g1
    have hat : (l.map plA)[((j : Nat) : Int).toNat]? = some (plA l[j]) := by rw [Int.toNat_natCast, List.getElem?_map, List.getElem?_eq_getElem hlt]; rfl
    have sL := spL_snoc (t := t) hlt
    have sR := spR_snoc (t := t) hlt
    have lL := spL_len (l.take j) t
    have lR := spR_len (l.take j) t
    rw [List.length_take] at lL lR
    have hIH := IH (j + 1) (by omega) (by omega)
    rw [sL, sR] at hIH
    generalize spL (l.take j) t = A at *
    generalize spR (l.take j) t = C at *
    generalize l[j] = x at *
    obtain ⟨xp, xb⟩ := x
    simp only at g1 hIH hat
    repeat (refine Run.go rfl ?_)
    refine Run.val rfl rfl rfl (ValOk.idx (plA ⟨xp, xb⟩) rfl rfl rfl rfl rfl (by omega) hat) rfl ?_
    repeat (refine Run.go rfl ?_)
    refine Run.cond rfl (fun hc => ?_) (fun hc => ?_)
    · have hc : xp < t := of_decide_eq_true hc
      rw [if_pos hc, if_pos hc] at hIH
      refine Run.unBox (7, 0) 1 (7, 1) rfl rfl rfl (by decide) ?_
      repeat (refine Run.go rfl ?_)
      refine Run.buildSlice [plA ⟨xp, xb⟩] rfl rfl rfl rfl rfl rfl rfl rfl rfl rfl rfl rfl rfl rfl ?_
      refine Run.appendo rfl rfl rfl rfl rfl rfl rfl rfl rfl rfl rfl rfl rfl rfl (by show (List.length _ + 1) * 16 ≤ 140737488355328; rw [List.length_map]; omega) (by show List.length _ + 1 ≤ _; rw [List.length_map]; simp [capMax]; omega) (by decide) rfl ?_
      refine Run.unpack 52 rfl rfl ?_
      repeat (refine Run.go rfl ?_)
      refine Run.packBox (7, 0) 1 rfl rfl rfl rfl ?_
      repeat (refine Run.go rfl ?_)
      refine Run.of hIH ⟨rfl, rfl, rfl, rfl, rfl, rfl, ?_, trivial⟩ ⟨rfl, rfl, ?_, rfl, trivial⟩
      · show i64 _ = _
        rw [wrap_i64 (by omega) (by omega)]
        rfl
      · rw [List.map_append]; rfl
    · have hc : ¬ xp < t := of_decide_eq_false hc
      rw [if_neg hc, if_neg hc] at hIH
      have hx16 : IntKind.i16.wrap (xp - t) = xp - t := wrap_i16 (by omega) (by omega)
      refine Run.unBox (8, 0) 1 (8, 1) rfl rfl rfl (by decide) ?_
      repeat (refine Run.go rfl ?_)
      rw [hx16]
      refine Run.val rfl rfl rfl (v := plA ⟨xp - t, xb⟩) (ValOk.build (cs := (plA ⟨xp - t, xb⟩).cells) rfl rfl rfl rfl rfl) rfl ?_
      repeat (refine Run.go rfl ?_)
      refine Run.buildSlice [plA ⟨xp - t, xb⟩] rfl rfl rfl rfl rfl rfl rfl rfl rfl rfl rfl rfl rfl rfl ?_
      refine Run.appendo rfl rfl rfl rfl rfl rfl rfl rfl rfl rfl rfl rfl rfl rfl (by show (List.length _ + 1) * 16 ≤ 140737488355328; rw [List.length_map]; omega) (by show List.length _ + 1 ≤ _; rw [List.length_map]; simp [capMax]; omega) (by decide) rfl ?_
      refine Run.unpack 65 rfl rfl ?_
      repeat (refine Run.go rfl ?_)
      refine Run.packBox (8, 0) 1 rfl rfl rfl rfl ?_
      repeat (refine Run.go rfl ?_)
      refine Run.of hIH ⟨rfl, rfl, rfl, rfl, rfl, rfl, ?_, trivial⟩ ⟨rfl, rfl, rfl, ?_, trivial⟩
      · show i64 _ = _
        rw [wrap_i64 (by omega) (by omega)]
        rfl
      · rw [List.map_append]; rfl
  · have hj' : j = l.length := by have := of_decide_eq_false hc0; omega
    subst hj'
    rw [List.take_length]
    generalize spL l t = A at *
    generalize spR l t = C at *
    repeat (refine Run.go rfl ?_)
    refine Run.unBox (7, 0) 1 (7, 1) rfl rfl rfl (by decide) ?_
    refine Run.unBox (8, 0) 1 (8, 1) rfl rfl rfl (by decide) ?_
    refine Run.drawn [[0, 1, 2, 3, 4], [0, 2, 1, 3, 4], [1, 0, 2, 3, 4]] ⟨[(4, .bp (4, 0) 0), (5, .bp (5, 0) 0), (6, i64 0)], [((4, 0), .box [i16 t, .vec (7, 1) 0 (A.map plA).length]), ((5, 0), .box [i16 (n - t), .vec (8, 1) 0 (C.map plA).length]), ((7, 1), .vec 9 false (A.map plA)), ((8, 1), .vec 9 false (C.map plA))]⟩ (by decide +kernel) (by kernel_rfl) ?_ fun _ hN => ⟨?_, ?_, ?_, trivial⟩
    rotate_left
    iterate 3
      · repeat (refine Run.go rfl ?_)
        exact Run.of hN ⟨rfl, rfl, rfl, trivial⟩ ⟨rfl, rfl, rfl, rfl, trivial⟩
    refine Run.packBox (4, 0) 1 rfl rfl rfl rfl ?_
    refine Run.packBox (5, 0) 1 rfl rfl rfl rfl ?_
    exact Run.ret hg rfl rfl
noncomputable def X30 : Fx := ⟨Tryz.prog, tys, 30, Tryz.f30, [0, 1]⟩
theorem X30_ok : X30.Ok := ⟨Tryz.func30, tys_ok⟩
set_option maxHeartbeats 2000000 in
theorem specSplitRack_ct (n t : Int) (l : List Pl) (e : Bool) (h : VR n l) (hr : ∀ x ∈ l, bkRng x.b) : Ct Tryz.prog 30 [rkR e ⟨n, l⟩, i64 t] (splA n t l) [] := by
  have cV := l05Ok_ct ⟨n, l⟩ e (h.ok hr).1
  rw [(h.ok hr).2] at cV
  have hlen := h.len
  have hn := h.hn
  have hlm : ((l.map plA).length : Nat) = l.length := List.length_map ..
  have hw1 : IntKind.i64.wrap n = n := wrap_i64 (by omega) (by omega)
  have hw2 : IntKind.i64.wrap (n - 1) = n - 1 := wrap_i64 (by omega) (by omega)
  refine Ct.intro X30 X30_ok rfl (by kernel_rfl) rfl rfl fun g hg => ?_
  iterate 3 (refine Run.go rfl ?_)
  refine Run.freezeBox 2 (2, 0) (rkR e ⟨n, l⟩).cells rfl rfl rfl rfl ?_
  repeat (refine Run.go rfl ?_)
  refine Run.cs rfl cV rfl rfl ?_
  repeat (refine Run.go rfl ?_)
  refine Run.cond rfl (fun h => by simp at h) (fun _ => ?_)
  repeat (refine Run.go rfl ?_)
  refine Run.cs rfl (l00In_ct t 1 (n - 1)) (by show [i64 _, i64 _, i64 _] = _; rw [hw1, hw2]) rfl ?_
  rw [split_in hn]
  repeat (refine Run.go rfl ?_)
  refine Run.cond rfl (fun hc0 => ?_) (fun hc0 => ?_)
  · have hc0 : (!decide (1 ≤ t ∧ t ≤ n - 1)) = true := hc0
    rw [Bool.not_eq_true'] at hc0
    rw [splA, if_neg (of_decide_eq_false hc0)] at hg
    repeat (refine Run.go rfl ?_)
    refine Run.val rfl rfl rfl (ValOk.build rfl rfl rfl rfl rfl) rfl ?_
    refine Run.val rfl rfl rfl (ValOk.build rfl rfl rfl rfl rfl) rfl ?_
    repeat (refine Run.go rfl ?_)
    refine Run.nilBox (4, 0) 1 9 false rfl rfl ?_
    refine Run.nilBox (5, 0) 1 9 false rfl rfl ?_
    exact Run.ret hg rfl rfl
  have hc0 : (!decide (1 ≤ t ∧ t ≤ n - 1)) = false := hc0
  rw [Bool.not_eq_false'] at hc0
  have ht := of_decide_eq_true hc0
  rw [splA, if_pos ht] at hg
  have ht16 : IntKind.i16.wrap t = t := wrap_i16 (by omega) (by omega)
  have hnt16 : IntKind.i16.wrap (n - t) = n - t := wrap_i16 (by omega) (by omega)
  repeat (refine Run.go rfl ?_)
  rw [ht16]
  refine Run.val rfl rfl rfl (ValOk.build rfl rfl rfl rfl rfl) rfl ?_
  repeat (refine Run.go rfl ?_)
  rw [ht16]
  repeat (refine Run.go rfl ?_)
  rw [hnt16]
  refine Run.val rfl rfl rfl (ValOk.build rfl rfl rfl rfl rfl) rfl ?_
  repeat (refine Run.go rfl ?_)
  refine Run.nilBox (7, 0) 1 9 false rfl rfl ?_
  refine Run.nilBox (8, 0) 1 9 false rfl rfl ?_
  refine Run.loop (fun j : Nat => ⟨[(1, i64 t), (2, .rp (rkR e ⟨n, l⟩).cells 0), (4, .bp (4, 0) 0), (5, .bp (5, 0) 0), (7, .bp (7, 0) 0), (8, .bp (8, 0) 0), (9, i64 (j : Nat))],
    [((4, 0), .box [i16 0, .lit (.slice none 0 0)]), ((5, 0), .box [i16 0, .lit (.slice none 0 0)]), ((7, 0), .box [i16 t, .own 9 false ((spL (l.take j) t).map plA)]), ((8, 0), .box [i16 (n - t), .own 9 false ((spR (l.take j) t).map plA)])]⟩) (fun j => j ≤ l.length) (fun j => l.length - j) 0 (Nat.zero_le _) ?_ ?_
  · exact St.Le.mk' ⟨rfl, rfl, rfl, rfl, rfl, rfl, rfl, trivial⟩ ⟨rfl, rfl, rfl, rfl, trivial⟩
  intro j hj IH
  repeat (refine Run.go rfl ?_)
  refine Run.cond rfl (fun hc0 => ?_) (fun hc0 => ?_)
  · have hlt : j < l.length := by have := of_decide_eq_true hc0; rw [hlm] at this; omega
    have g1 := h.rng j hlt
    rw [pa_get hlt] at g1
    have hat : (l.map plA)[((j : Nat) : Int).toNat]? = some (plA l[j]) := by rw [Int.toNat_natCast, List.getElem?_map, List.getElem?_eq_getElem hlt]; rfl
    have sL := spL_snoc (t := t) hlt
    have sR := spR_snoc (t := t) hlt
    have lL := spL_len (l.take j) t
    have lR := spR_len (l.take j) t
    rw [List.length_take] at lL lR
    have hIH := IH (j + 1) (by omega) (by omega)
    rw [sL, sR] at hIH
    generalize spL (l.take j) t = A at *
    generalize spR (l.take j) t = C at *
    generalize l[j] = x at *
    obtain ⟨xp, xb⟩ := x
    simp only at g1 hIH hat
    have hxw : IntKind.i64.wrap xp = xp := wrap_i64 (by omega) (by omega)
    repeat (refine Run.go rfl ?_)
    refine Run.val rfl rfl rfl (ValOk.idx (plA ⟨xp, xb⟩) rfl rfl rfl rfl rfl (by omega) hat) rfl ?_
    repeat (refine Run.go rfl ?_)
    refine Run.cond (b := decide (xp < t)) (by show bo (decide (IntKind.i64.wrap xp < t)) = _; rw [hxw]) (fun hc => ?_) (fun hc => ?_)
    · have hc : xp < t := of_decide_eq_true hc
      rw [if_pos hc, if_pos hc] at hIH
      refine Run.unBox (7, 0) 1 (7, 1) rfl rfl rfl (by decide) ?_
      repeat (refine Run.go rfl ?_)
      refine Run.buildSlice [plA ⟨xp, xb⟩] rfl rfl rfl rfl rfl rfl rfl rfl rfl rfl rfl rfl rfl rfl ?_
      refine Run.appendo rfl rfl rfl rfl rfl rfl rfl rfl rfl rfl rfl rfl rfl rfl (by show (List.length _ + 1) * 16 ≤ 140737488355328; rw [List.length_map]; omega) (by show List.length _ + 1 ≤ _; rw [List.length_map]; simp [capMax]; omega) (by decide) rfl ?_
      refine Run.unpack 54 rfl rfl ?_
      repeat (refine Run.go rfl ?_)
      refine Run.packBox (7, 0) 1 rfl rfl rfl rfl ?_
      repeat (refine Run.go rfl ?_)
      refine Run.of hIH ⟨rfl, rfl, rfl, rfl, rfl, rfl, ?_, trivial⟩ ⟨rfl, rfl, ?_, rfl, trivial⟩
      · show i64 _ = _
        rw [wrap_i64 (by omega) (by omega)]
        rfl
      · rw [List.map_append]; rfl
    · have hc : ¬ xp < t := of_decide_eq_false hc
      rw [if_neg hc, if_neg hc] at hIH
      have hx16 : IntKind.i16.wrap (xp - t) = xp - t := wrap_i16 (by omega) (by omega)
      refine Run.unBox (8, 0) 1 (8, 1) rfl rfl rfl (by decide) ?_
      repeat (refine Run.go rfl ?_)
      rw [ht16, hx16]
      refine Run.val rfl rfl rfl (v := plA ⟨xp - t, xb⟩) (ValOk.build (cs := (plA ⟨xp - t, xb⟩).cells) rfl rfl rfl rfl rfl) rfl ?_
      repeat (refine Run.go rfl ?_)
      refine Run.buildSlice [plA ⟨xp - t, xb⟩] rfl rfl rfl rfl rfl rfl rfl rfl rfl rfl rfl rfl rfl rfl ?_
      refine Run.appendo rfl rfl rfl rfl rfl rfl rfl rfl rfl rfl rfl rfl rfl rfl (by show (List.length _ + 1) * 16 ≤ 140737488355328; rw [List.length_map]; omega) (by show List.length _ + 1 ≤ _; rw [List.length_map]; simp [capMax]; omega) (by decide) rfl ?_
      refine Run.unpack 67 rfl rfl ?_
      repeat (refine Run.go rfl ?_)
      refine Run.packBox (8, 0) 1 rfl rfl rfl rfl ?_
      repeat (refine Run.go rfl ?_)
      refine Run.of hIH ⟨rfl, rfl, rfl, rfl, rfl, rfl, ?_, trivial⟩ ⟨rfl, rfl, rfl, ?_, trivial⟩
      · show i64 _ = _
        rw [wrap_i64 (by omega) (by omega)]
        rfl
      · rw [List.map_append]; rfl
  · have hj' : j = l.length := by have := of_decide_eq_false hc0; rw [hlm] at this; omega
    subst hj'
    rw [List.take_length]
    generalize spL l t = A at *
    generalize spR l t = C at *
    repeat (refine Run.go rfl ?_)
    refine Run.unBox (7, 0) 1 (7, 1) rfl rfl rfl (by decide) ?_
    refine Run.unBox (8, 0) 1 (8, 1) rfl rfl rfl (by decide) ?_
    refine Run.drawn [[0, 1, 2, 3, 4], [0, 2, 1, 3, 4], [1, 0, 2, 3, 4]] ⟨[(4, .bp (4, 0) 0), (5, .bp (5, 0) 0), (6, i64 0)], [((4, 0), .box [i16 t, .vec (7, 1) 0 (A.map plA).length]), ((5, 0), .box [i16 (n - t), .vec (8, 1) 0 (C.map plA).length]), ((7, 1), .vec 9 false (A.map plA)), ((8, 1), .vec 9 false (C.map plA))]⟩ (by decide +kernel) (by kernel_rfl) ?_ fun _ hN => ⟨?_, ?_, ?_, trivial⟩
    rotate_left
    iterate 3
      · repeat (refine Run.go rfl ?_)
        exact Run.of hN ⟨rfl, rfl, rfl, trivial⟩ ⟨rfl, rfl, rfl, rfl, trivial⟩
    refine Run.packBox (4, 0) 1 rfl rfl rfl rfl ?_
    refine Run.packBox (5, 0) 1 rfl rfl rfl rfl ?_
    exact Run.ret hg rfl rfl
end Go.Proofs.YtbkelajnngdimaaGreatDoor

/- Contracts of the program's functions, and what follows from them. -/
set_option maxRecDepth 100000
namespace Go.Proofs.YtbkelajnngdimaaGreatDoor
open Go Go.Av
noncomputable def X31 : Fx := ⟨Tryz.prog, tys, 31, Tryz.f31, [0]⟩
theorem X31_ok : X31.Ok := ⟨Tryz.func31, tys_ok⟩
set_option maxHeartbeats 2000000 in
theorem JoinRacks_ct (t m : Int) (A C : List Pl) (e1 e2 : Bool) (hA : VR t A) (hC : VR m C) (hrA : ∀ x ∈ A, bkRng x.b) (hrC : ∀ x ∈ C, bkRng x.b) (hs : srt (pbs A ++ pbs C) = true) (hsum : t + m ≤ 60) :
    Ct Tryz.prog 31 [rkR e1 ⟨t, A⟩, rkR e2 ⟨m, C⟩] (.tup [rkO false ⟨t + m, A ++ C.map (mvP t)⟩, i64 0]) [] := by
  have cV := implValidRack_ct ⟨t, A⟩ e1 (hA.ok hrA).1
  rw [(hA.ok hrA).2] at cV
  have cV2 := implValidRack_ct ⟨m, C⟩ e2 (hC.ok hrC).1
  rw [(hC.ok hrC).2] at cV2
  have lA := hA.len
  have lC := hC.len
  have nA := hA.hn
  have nC := hC.hn
  have cB1 := rkBooks_ct ⟨t, A⟩ e1 (by show A.length ≤ _; omega)
  have cB2 := rkBooks_ct ⟨m, C⟩ e2 (by show C.length ≤ _; omega)
  simp only at cB1 cB2
  have pA := pbs_len A
  have pC := pbs_len C
  have cS := isSorted_ct (pbs A ++ pbs C) false (by rw [List.length_append]; omega)
  rw [hs] at cS
  have hlC : ((C.map plA).length : Nat) = C.length := List.length_map ..
  have hlA : ((A.map plA).length : Nat) = A.length := List.length_map ..
  have htm : IntKind.i16.wrap (t + m) = t + m := wrap_i16 (by omega) (by omega)
  have cC := clonePl_ct A e1 (by omega)
  refine Ct.intro X31 X31_ok rfl (by kernel_rfl) rfl rfl fun g hg => ?_
  iterate 3 (refine Run.go rfl ?_)
  refine Run.freezeBox 2 (2, 0) (rkR e1 ⟨t, A⟩).cells rfl rfl rfl rfl ?_
  iterate 1 (refine Run.go rfl ?_)
  refine Run.freezeBox 3 (3, 0) (rkR e2 ⟨m, C⟩).cells rfl rfl rfl rfl ?_
  repeat (refine Run.go rfl ?_)
  refine Run.cs rfl cV rfl rfl ?_
  repeat (refine Run.go rfl ?_)
  refine Run.cs rfl cV2 rfl rfl ?_
  repeat (refine Run.go rfl ?_)
  refine Run.cond rfl (fun h => by simp at h) (fun _ => ?_)
  iterate 1 (refine Run.go rfl ?_)
  refine Run.drawn [[0, 1, 2, 3, 4, 5, 6, 7], [0, 2, 1, 3, 4, 5, 6, 7], [2, 0, 1, 3, 4, 5, 6, 7]]
    ⟨[(2, .rp (rkR e1 ⟨t, A⟩).cells 0), (3, .rp (rkR e2 ⟨m, C⟩).cells 0), (4, .bp (4, 0) 0), (19, bo false)], [((4, 0), .box [i16 0, .lit (.slice none 0 0)])]⟩ (by decide +kernel) (by kernel_rfl) ?_ fun _ hN => ⟨?_, ?_, ?_, trivial⟩
  rotate_left
  iterate 3
    · repeat (refine Run.go rfl ?_)
      refine Run.cs rfl cB1 rfl (rfB _) ?_
      repeat (refine Run.go rfl ?_)
      refine Run.cs rfl cB2 rfl (rfB _) ?_
      refine Run.unpack 21 rfl rfl ?_
      refine Run.unpack 23 rfl rfl ?_
      refine Run.appends (ys := (pbs C).map bkA) rfl rfl rfl rfl rfl rfl rfl rfl rfl ?_ (lt_bk _) rfl rfl rfl (oneC_bk _) (by show (List.length _ + List.length _) * 14 ≤ _; rw [List.length_map, List.length_map]; omega) (by show List.length _ + List.length _ ≤ 9223372036854775807; rw [List.length_map, List.length_map]; omega) rfl ?_
      · refine (srcOf_vec rfl rfl ?_).trans ?_
        · simp
        · rw [List.drop_zero, List.take_of_length_le (by simp)]
      rw [← List.map_append]
      repeat (refine Run.go rfl ?_)
      refine Run.cs rfl cS (by rw [frzB]) rfl ?_
      repeat (refine Run.go rfl ?_)
      exact Run.of hN ⟨rfl, rfl, rfl, rfl, trivial⟩ ⟨rfl, trivial⟩
  refine Run.cond rfl (fun h => by simp at h) (fun _ => ?_)
  repeat (refine Run.go rfl ?_)
  rw [htm]
  refine Run.cond rfl (fun h => ?_) (fun _ => ?_)
  · exfalso; have := of_decide_eq_true h; omega
  repeat (refine Run.go rfl ?_)
  refine Run.drawI (fun D => ⟨[(2, .rp (rkR e1 ⟨t, A⟩).cells 0), (3, .rp (rkR e2 ⟨m, C⟩).cells 0), (4, .bp (4, 0) 0), (36, bif D 0 then .rp (rkR e1 ⟨t, A⟩).cells 0 else .top), (37, bif D 1 then i16 t else .top), (38, bif D 2 then .rp (rkR e2 ⟨m, C⟩).cells 0 else .top), (39, bif D 3 then i16 m else .top), (40, bif D 4 then i16 (t + m) else .top), (41, bif D 5 then .rp (rkR e1 ⟨t, A⟩).cells 1 else .top), (42, bif D 6 then .ro 9 e1 (A.map plA) else .top), (43, bif D 8 then .top else bif D 7 then .own 9 false (A.map plA) else .top), (44, bif D 8 then .agg [i16 (t + m), .vec (43, 0) 0 (A.map plA).length] else .top), (6, bif D 9 then .bp (6, 0) 0 else .top)], [((4, 0), Ob.box [i16 0, .lit (.slice none 0 0)]), ((6, 0), (bif D 10 then Ob.box [i16 (t + m), .vec (43, 0) 0 (A.map plA).length] else (bif D 9 then Ob.box [i16 0, .lit (.slice none 0 0)] else Ob.gone))), ((43, 0), (bif D 8 then Ob.vec 9 false (A.map plA) else Ob.gone))]⟩) (by decide +kernel) (by decide +kernel) ?_ ?_ fun k' => ⟨?_, ?_, ?_, ?_, ?_, ?_, ?_, ?_, ?_, ?_, ?_, trivial⟩
  · exact St.Le.mk' ⟨rfl, rfl, rfl, rfl, rfl, rfl, rfl, rfl, rfl, rfl, rfl, rfl, rfl, trivial⟩ ⟨rfl, rfl, rfl, trivial⟩
  rotate_left
  · intro D hid h0 hp hs rest hK
    obtain ⟨d1, -⟩ : AllD D false [1] := ideal_sub hs (by decide +kernel)
    simp only [d1, h0, cond_true, cond_false]
    refine Run.go rfl ?_
    refine Run.le ?_ hK
    simp only [d1, h0, Nat.reduceBEq, Bool.false_or, Bool.true_or, cond_true, cond_false]
    exact St.Le.mk' ⟨rfl, rfl, rfl, rfl, rfl, rfl, rfl, rfl, rfl, rfl, rfl, rfl, rfl, trivial⟩ ⟨rfl, rfl, rfl, trivial⟩
  · intro D hid h0 hp hs rest hK
    obtain ⟨d0, -⟩ : AllD D true [0] := ideal_sub hp (by decide +kernel)
    obtain ⟨d4, -⟩ : AllD D false [4] := ideal_sub hs (by decide +kernel)
    simp only [d0, d4, h0, cond_true, cond_false]
    refine Run.go rfl ?_
    refine Run.le ?_ hK
    simp only [d0, d4, h0, Nat.reduceBEq, Bool.false_or, Bool.true_or, cond_true, cond_false]
    exact St.Le.mk' ⟨rfl, rfl, rfl, rfl, rfl, rfl, rfl, rfl, rfl, rfl, rfl, rfl, rfl, trivial⟩ ⟨rfl, rfl, rfl, trivial⟩
  · intro D hid h0 hp hs rest hK
    obtain ⟨d3, -⟩ : AllD D false [3] := ideal_sub hs (by decide +kernel)
    simp only [d3, h0, cond_true, cond_false]
    refine Run.go rfl ?_
    refine Run.le ?_ hK
    simp only [d3, h0, Nat.reduceBEq, Bool.false_or, Bool.true_or, cond_true, cond_false]
    exact St.Le.mk' ⟨rfl, rfl, rfl, rfl, rfl, rfl, rfl, rfl, rfl, rfl, rfl, rfl, rfl, trivial⟩ ⟨rfl, rfl, rfl, trivial⟩
  · intro D hid h0 hp hs rest hK
    obtain ⟨d2, -⟩ : AllD D true [2] := ideal_sub hp (by decide +kernel)
    obtain ⟨d4, -⟩ : AllD D false [4] := ideal_sub hs (by decide +kernel)
    simp only [d2, d4, h0, cond_true, cond_false]
    refine Run.go rfl ?_
    refine Run.le ?_ hK
    simp only [d2, d4, h0, Nat.reduceBEq, Bool.false_or, Bool.true_or, cond_true, cond_false]
    exact St.Le.mk' ⟨rfl, rfl, rfl, rfl, rfl, rfl, rfl, rfl, rfl, rfl, rfl, rfl, rfl, trivial⟩ ⟨rfl, rfl, rfl, trivial⟩
  · intro D hid h0 hp hs rest hK
    obtain ⟨d1, d3, -⟩ : AllD D true [1, 3] := ideal_sub hp (by decide +kernel)
    obtain ⟨d8, -⟩ : AllD D false [8] := ideal_sub hs (by decide +kernel)
    simp only [d1, d3, d8, h0, cond_true, cond_false]
    refine Run.go rfl ?_
    rw [htm]
    refine Run.le ?_ hK
    simp only [d1, d3, d8, h0, Nat.reduceBEq, Bool.false_or, Bool.true_or, cond_true, cond_false]
    exact St.Le.mk' ⟨rfl, rfl, rfl, rfl, rfl, rfl, rfl, rfl, rfl, rfl, rfl, rfl, rfl, trivial⟩ ⟨rfl, rfl, rfl, trivial⟩
  · intro D hid h0 hp hs rest hK
    obtain ⟨d6, -⟩ : AllD D false [6] := ideal_sub hs (by decide +kernel)
    simp only [d6, h0, cond_true, cond_false]
    refine Run.go rfl ?_
    refine Run.le ?_ hK
    simp only [d6, h0, Nat.reduceBEq, Bool.false_or, Bool.true_or, cond_true, cond_false]
    exact St.Le.mk' ⟨rfl, rfl, rfl, rfl, rfl, rfl, rfl, rfl, rfl, rfl, rfl, rfl, rfl, trivial⟩ ⟨rfl, rfl, rfl, trivial⟩
  · intro D hid h0 hp hs rest hK
    obtain ⟨d5, -⟩ : AllD D true [5] := ideal_sub hp (by decide +kernel)
    obtain ⟨d7, -⟩ : AllD D false [7] := ideal_sub hs (by decide +kernel)
    simp only [d5, d7, h0, cond_true, cond_false]
    refine Run.go rfl ?_
    refine Run.le ?_ hK
    simp only [d5, d7, h0, Nat.reduceBEq, Bool.false_or, Bool.true_or, cond_true, cond_false]
    exact St.Le.mk' ⟨rfl, rfl, rfl, rfl, rfl, rfl, rfl, rfl, rfl, rfl, rfl, rfl, rfl, trivial⟩ ⟨rfl, rfl, rfl, trivial⟩
  · intro D hid h0 hp hs rest hK
    obtain ⟨d6, -⟩ : AllD D true [6] := ideal_sub hp (by decide +kernel)
    obtain ⟨d8, -⟩ : AllD D false [8] := ideal_sub hs (by decide +kernel)
    simp only [d6, d8, h0, cond_true, cond_false]
    refine Run.cs rfl cC rfl (rfP _) ?_
    refine Run.le ?_ hK
    simp only [d6, d8, h0, Nat.reduceBEq, Bool.false_or, Bool.true_or, cond_true, cond_false]
    exact St.Le.mk' ⟨rfl, rfl, rfl, rfl, rfl, rfl, rfl, rfl, rfl, rfl, rfl, rfl, rfl, trivial⟩ ⟨rfl, rfl, rfl, trivial⟩
  · intro D hid h0 hp hs rest hK
    obtain ⟨d4, d7, -⟩ : AllD D true [4, 7] := ideal_sub hp (by decide +kernel)
    obtain ⟨d10, -⟩ : AllD D false [10] := ideal_sub hs (by decide +kernel)
    have d1 : D 1 = true := hid 4 1 (by decide +kernel) (by decide +kernel) d4
    have d3 : D 3 = true := hid 4 3 (by decide +kernel) (by decide +kernel) d4
    have d0 : D 0 = true := hid 1 0 (by decide +kernel) (by decide +kernel) d1
    have d2 : D 2 = true := hid 3 2 (by decide +kernel) (by decide +kernel) d3
    have d6 : D 6 = true := hid 7 6 (by decide +kernel) (by decide +kernel) d7
    have d5 : D 5 = true := hid 6 5 (by decide +kernel) (by decide +kernel) d6
    simp only [d4, d7, d10, d1, d3, d0, d2, d6, d5, h0, cond_true, cond_false]
    refine Run.unpack 43 rfl (by cases D 9 <;> rfl) ?_
    refine Run.val rfl rfl rfl (ValOk.build (cs := [i16 (t + m), .vec (43, 0) 0 (A.map plA).length]) rfl rfl rfl rfl (by kernel_rfl)) rfl ?_
    refine Run.forget 43 ?_
    refine Run.le ?_ hK
    simp only [d4, d7, d10, d1, d3, d0, d2, d6, d5, h0, Nat.reduceBEq, Bool.false_or, Bool.true_or, cond_true, cond_false]
    exact St.Le.mk' ⟨rfl, rfl, rfl, rfl, rfl, rfl, rfl, rfl, rfl, rfl, rfl, rfl, rfl, trivial⟩ ⟨rfl, rfl, rfl, trivial⟩
  · intro D hid h0 hp hs rest hK
    obtain ⟨d10, -⟩ : AllD D false [10] := ideal_sub hs (by decide +kernel)
    simp only [d10, h0, cond_true, cond_false]
    refine Run.alloc rfl rfl rfl rfl rfl rfl (by simp only [St.nrf, List.all_cons, List.all_nil, Bool.and_eq_true, Bool.and_true]; repeat' apply And.intro; all_goals (repeat' (first | rfl | refine nrf_bif ?_ ?_ | refine nrfO_bif ?_ ?_))) rfl ?_
    refine Run.le ?_ hK
    simp only [d10, h0, Nat.reduceBEq, Bool.false_or, Bool.true_or, cond_true, cond_false]
    exact St.Le.mk' ⟨rfl, rfl, rfl, rfl, rfl, rfl, rfl, rfl, rfl, rfl, rfl, rfl, rfl, trivial⟩ ⟨rfl, rfl, rfl, trivial⟩
  · intro D hid h0 hp hs rest hK
    obtain ⟨d8, d9, -⟩ : AllD D true [8, 9] := ideal_sub hp (by decide +kernel)
    simp only [d8, d9, h0, cond_true, cond_false]
    refine Run.go rfl ?_
    refine Run.le ?_ hK
    simp only [d8, d9, h0, Nat.reduceBEq, Bool.false_or, Bool.true_or, cond_true, cond_false]
    exact St.Le.mk' ⟨rfl, rfl, rfl, rfl, rfl, rfl, rfl, rfl, rfl, rfl, rfl, rfl, rfl, trivial⟩ ⟨rfl, rfl, rfl, trivial⟩
  refine Run.packBox (6, 0) 1 rfl rfl rfl rfl ?_
  repeat (refine Run.go rfl ?_)
  refine Run.loop (fun j : Nat => ⟨[(2, .rp (rkR e1 ⟨t, A⟩).cells 0), (4, .bp (4, 0) 0), (6, .bp (6, 0) 0), (46, .ro 9 e2 (C.map plA)), (47, i64 C.length), (48, i64 (j : Nat))],
    [((4, 0), .box [i16 0, .lit (.slice none 0 0)]), ((6, 0), .box [i16 (t + m), .own 9 false ((A ++ (C.take j).map (mvP t)).map plA)])]⟩) (fun j => j ≤ C.length) (fun j => C.length - j) 0 (Nat.zero_le _) ?_ ?_
  · refine St.Le.mk' ⟨rfl, rfl, rfl, rfl, ?_, rfl, trivial⟩ ⟨rfl, ?_, trivial⟩
    · show i64 ((C.map plA).length : Nat) = _
      rw [hlC]
    · rw [List.take_zero, List.map_nil, List.append_nil]; rfl
  intro j hj IH
  repeat (refine Run.go rfl ?_)
  refine Run.cond rfl (fun hc0 => ?_) (fun hc0 => ?_)
  · have hlt : j < C.length := by have := of_decide_eq_true hc0; omega
    have g1 := hC.rng j hlt
    rw [pa_get hlt] at g1
    have hat : (C.map plA)[((j : Nat) : Int).toNat]? = some (plA C[j]) := by rw [Int.toNat_natCast, List.getElem?_map, List.getElem?_eq_getElem hlt]; rfl
    have hIH := IH (j + 1) (by omega) (by omega)
    have he : A ++ (C.take (j + 1)).map (mvP t) = (A ++ (C.take j).map (mvP t)) ++ [⟨C[j].p + t, C[j].b⟩] := by rw [List.take_succ_eq_append_getElem hlt, List.map_append, List.append_assoc]; rfl
    rw [he] at hIH
    clear he
    have hB : (A ++ (C.take j).map (mvP t)).length ≤ 120 := by rw [List.length_append, List.length_map, List.length_take]; omega
    generalize A ++ (C.take j).map (mvP t) = B at *
    generalize C[j] = x at *
    obtain ⟨xp, xb⟩ := x
    simp only at g1 hat hIH
    have hx16 : IntKind.i16.wrap (xp + t) = xp + t := wrap_i16 (by omega) (by omega)
    repeat (refine Run.go rfl ?_)
    refine Run.val rfl rfl rfl (ValOk.idx (plA ⟨xp, xb⟩) rfl rfl rfl rfl rfl (by omega) hat) rfl ?_
    repeat (refine Run.go rfl ?_)
    refine Run.unBox (6, 0) 1 (6, 1) rfl rfl rfl (by decide) ?_
    repeat (refine Run.go rfl ?_)
    rw [hx16]
    refine Run.val rfl rfl rfl (v := plA ⟨xp + t, xb⟩) (ValOk.build (cs := (plA ⟨xp + t, xb⟩).cells) rfl rfl rfl rfl rfl) rfl ?_
    repeat (refine Run.go rfl ?_)
    refine Run.buildSlice [plA ⟨xp + t, xb⟩] rfl rfl rfl rfl rfl rfl rfl rfl rfl rfl rfl rfl rfl rfl ?_
    refine Run.appendo rfl rfl rfl rfl rfl rfl rfl rfl rfl rfl rfl rfl rfl rfl (by show (List.length _ + 1) * 16 ≤ 140737488355328; rw [List.length_map]; omega) (by show List.length _ + 1 ≤ _; rw [List.length_map]; simp [capMax]; omega) (by decide) rfl ?_
    refine Run.unpack 63 rfl rfl ?_
    repeat (refine Run.go rfl ?_)
    refine Run.packBox (6, 0) 1 rfl rfl rfl rfl ?_
    repeat (refine Run.go rfl ?_)
    refine Run.of hIH ⟨rfl, rfl, rfl, rfl, rfl, ?_, trivial⟩ ⟨rfl, ?_, trivial⟩
    · show i64 _ = _
      rw [wrap_i64 (by omega) (by omega)]
      rfl
    · rw [List.map_append]; rfl
  · have hj' : j = C.length := by have := of_decide_eq_false hc0; omega
    subst hj'
    rw [List.take_length]
    generalize A ++ C.map (mvP t) = B at *
    repeat (refine Run.go rfl ?_)
    refine Run.unBox (6, 0) 1 (6, 1) rfl rfl rfl (by decide) ?_
    repeat (refine Run.go rfl ?_)
    refine Run.packBox (4, 0) 1 rfl rfl rfl rfl ?_
    exact Run.ret hg rfl rfl
noncomputable def X81 : Fx := ⟨Tryz.prog, tys, 81, Tryz.f81, [0, 1]⟩
theorem X81_ok : X81.Ok := ⟨Tryz.func81, tys_ok⟩
theorem equalPl_ct (l : List Pl) (e1 e2 : Bool) (hl : l.length ≤ 1048576) (hr : ∀ x ∈ l, plRng x) : Ct Tryz.prog 81 [.ro 9 e1 (l.map plA), .ro 9 e2 (l.map plA)] (bo true) [] := by
  have hlm : ((l.map plA).length : Nat) = l.length := List.length_map ..
  refine Ct.intro X81 X81_ok rfl (by kernel_rfl) rfl rfl fun g hg => ?_
  repeat (refine Run.go rfl ?_)
  refine Run.cond rfl (fun h => by simp at h) (fun _ => ?_)
  repeat (refine Run.go rfl ?_)
  refine Run.loop (fun j : Nat => ⟨[(0, .ro 9 e1 (l.map plA)), (1, .ro 9 e2 (l.map plA)), (12, i64 l.length), (13, i64 (j : Nat))], []⟩) (fun j => j ≤ l.length) (fun j => l.length - j) 0 (Nat.zero_le _) ?_ ?_
  · refine St.Le.mk' ⟨rfl, rfl, ?_, rfl, trivial⟩ trivial
    show i64 ((l.map plA).length : Nat) = _
    rw [hlm]
  intro j hj IH
  repeat (refine Run.go rfl ?_)
  refine Run.cond rfl (fun h => ?_) (fun h => ?_)
  · have hlt : j < l.length := by have := of_decide_eq_true h; omega
    have hat : (l.map plA)[((j : Int)).toNat]? = some (plA l[j]) := by simp [hlt]
    have hx := hr l[j] (by simp)
    repeat (refine Run.go rfl ?_)
    refine Run.draw (by kernel_rfl) (by decide +kernel) ?_
    repeat (refine Quiet.go rfl ?_)
    refine Quiet.val rfl rfl (ValOk.idx (plA l[j]) rfl rfl rfl rfl rfl (by omega) hat) rfl ?_
    repeat (refine Quiet.go rfl ?_)
    refine Quiet.val rfl rfl (ValOk.idx (plA l[j]) rfl rfl rfl rfl rfl (by omega) hat) rfl ?_
    repeat (refine Quiet.go rfl ?_)
    refine Quiet.val rfl rfl (ValOk.neK l[j] l[j] rfl plK rfl rfl hx hx) rfl ?_
    repeat (refine Quiet.go rfl ?_)
    refine Quiet.nil ?_
    repeat (refine Run.go rfl ?_)
    refine Run.cond rfl (fun h => by simp at h) (fun _ => ?_)
    repeat (refine Run.go rfl ?_)
    refine Run.of (IH (j + 1) (by omega) (by omega)) ⟨rfl, rfl, rfl, ?_, trivial⟩ trivial
    show i64 _ = _
    rw [wrap_i64 (by omega) (by omega)]
    rfl
  · repeat (refine Run.go rfl ?_)
    exact Run.ret hg rfl rfl
noncomputable def X19 : Fx := ⟨Tryz.prog, tys, 19, Tryz.f19, [0]⟩
theorem X19_ok : X19.Ok := ⟨Tryz.func19, tys_ok⟩
theorem implSameRack_ct (r : Rk) (e1 e2 : Bool) (hl : r.bs.length ≤ 1048576) (hr : ∀ x ∈ r.bs, plRng x) : Ct Tryz.prog 19 [rkR e1 r, rkR e2 r] (bo true) [] := by
  obtain ⟨n, l⟩ := r
  simp only at hl hr
  refine Ct.intro X19 X19_ok rfl (by kernel_rfl) rfl rfl fun g hg => ?_
  repeat (refine Run.go rfl ?_)
  refine Run.bool 10 rfl (fun _ => ?_) (fun h => by simp at h)
  repeat (refine Run.go rfl ?_)
  refine Run.cs rfl (equalPl_ct l e1 e2 hl hr) rfl rfl ?_
  repeat (refine Run.go rfl ?_)
  exact Run.ret hg rfl rfl
noncomputable def X89 : Fx := ⟨Tryz.prog, tys, 89, Tryz.f89, [0]⟩
theorem X89_ok : X89.Ok := ⟨Tryz.func89, tys_ok⟩
theorem sortedCode_ct (L : List Bk) (ex eb : Bool) (hl : L.length ≤ 1048576) (hv : vBs L = true) (hs : srt L = true) : Ct Tryz.prog 89 [.ro 1 ex ([L].map (blA eb))] (i64 0) [] := by
  refine Ct.intro X89 X89_ok rfl (by kernel_rfl) rfl rfl fun g hg => ?_
  have c1 := areAllBL0_ct [L] ex eb 103 vBs (by simp) (fun x hx => by
    have : x = L := by simpa using hx
    subst this
    exact validBooks_ct x eb hl)
  have c2 := areAllBL0_ct [L] ex eb 88 srt (by simp) (fun x hx => by
    have : x = L := by simpa using hx
    subst this
    exact isSorted_ct x eb hl)
  simp only [List.all_cons, List.all_nil, hv, hs, Bool.and_true] at c1 c2
  repeat (refine Run.go rfl ?_)
  refine Run.cs rfl c1 rfl rfl ?_
  repeat (refine Run.go rfl ?_)
  refine Run.cond rfl (fun h => by simp at h) (fun _ => ?_)
  repeat (refine Run.go rfl ?_)
  refine Run.cs rfl c2 rfl rfl ?_
  repeat (refine Run.go rfl ?_)
  refine Run.cond rfl (fun h => by simp at h) (fun _ => ?_)
  repeat (refine Run.go rfl ?_)
  exact Run.ret hg rfl rfl
noncomputable def X91 : Fx := ⟨Tryz.prog, tys, 91, Tryz.f91, [0, 1]⟩
theorem X91_ok : X91.Ok := ⟨Tryz.func91, tys_ok⟩
theorem placeFor1_ct (x b : Bk) : Ct Tryz.prog 91 [bkA x, .rp (bkA b).cells 0] (bo (decide (0 < uc x b))) [] := by
  refine Ct.intro X91 X91_ok rfl (by kernel_rfl) rfl rfl fun g hg => ?_
  repeat (refine Run.go rfl ?_)
  refine Run.cs rfl (compare_ct x b) rfl rfl ?_
  repeat (refine Run.go rfl ?_)
  exact Run.ret hg rfl rfl
noncomputable def X90 : Fx := ⟨Tryz.prog, tys, 90, Tryz.f90, [0]⟩
theorem X90_ok : X90.Ok := ⟨Tryz.func90, tys_ok⟩
theorem firstOfB_ct (L : List Bk) (ex : Bool) (f : Nat) (caps : List AV) (p : Bk → Bool) (hlen : L.length ≤ 1048576) (hc : AV.freeL caps = true) (hf : ∀ x ∈ L, Ct Tryz.prog f ([bkA x] ++ caps) (bo (p x)) []) :
    Ct Tryz.prog 90 [.ro 8 ex (L.map bkA), .fn f caps] (i64 (L.findIdx p : Nat)) [] := by
  have hfl := List.findIdx_le_length (xs := L) (p := p)
  refine Ct.intro X90 X90_ok rfl (by kernel_rfl) rfl rfl fun g hg => ?_
  repeat (refine Run.go rfl ?_)
  refine Run.callp rfl rfl rfl rfl rfl rfl (by simp [AV.freeL, AV.free, hc]) rfl rfl (indexB_ct L ex f caps p hlen hc hf) (by decide) (by decide) ?_
  repeat (refine Run.go rfl ?_)
  refine Run.cond rfl (fun h => ?_) (fun h => ?_)
  · have h : 0 ≤ fi p L := of_decide_eq_true h
    repeat (refine Run.go rfl ?_)
    refine Run.ret hg rfl ?_
    have : fi p L = (L.findIdx p : Nat) := by
      unfold fi at h ⊢
      split
      · rfl
      · rename_i hn; rw [if_neg hn] at h; omega
    rw [this]
    rfl
  · have h : ¬ 0 ≤ fi p L := of_decide_eq_false h
    repeat (refine Run.go rfl ?_)
    refine Run.ret hg rfl ?_
    have : L.findIdx p = L.length := by
      unfold fi at h
      split at h
      · omega
      · omega
    rw [this]
    show i64 ((L.map bkA).length : Int) = _
    rw [List.length_map]
noncomputable def X21 : Fx := ⟨Tryz.prog, tys, 21, Tryz.f21, [0]⟩
theorem X21_ok : X21.Ok := ⟨Tryz.func21, tys_ok⟩
theorem PlaceFor_ct (L : List Bk) (e : Bool) (b : Bk) (hl : L.length ≤ 60) (hv : vBs L = true) (hs : srt L = true) (hb : bOk b) :
    Ct Tryz.prog 21 [.ro 8 e (L.map bkA), bkA b] (if L.length = 60 then .tup [i64 0, i64 3] else .tup [i64 (L.findIdx (fun x => decide (0 < uc x b)) : Nat), i64 0]) [] := by
  have cB := validBook_ct b
  rw [hb.2] at cB
  have hml : ((L.map bkA).length : Nat) = L.length := List.length_map ..
  refine Ct.intro X21 X21_ok rfl (by kernel_rfl) rfl rfl fun g hg => ?_
  iterate 3 (refine Run.go rfl ?_)
  refine Run.freezeBox 3 (3, 0) (bkA b).cells rfl rfl rfl rfl ?_
  repeat (refine Run.go rfl ?_)
  refine Run.cs rfl cB rfl rfl ?_
  repeat (refine Run.go rfl ?_)
  refine Run.cond rfl (fun h => by simp at h) (fun _ => ?_)
  repeat (refine Run.go rfl ?_)
  refine Run.buildSlice [.ro 8 e (L.map bkA)] rfl rfl rfl rfl rfl rfl rfl rfl rfl rfl rfl rfl rfl rfl ?_
  refine Run.cs rfl (sortedCode_ct L true e (by omega) hv hs) rfl rfl ?_
  repeat (refine Run.go rfl ?_)
  refine Run.cond rfl (fun h => by simp at h) (fun _ => ?_)
  repeat (refine Run.go rfl ?_)
  refine Run.cond rfl (fun h => ?_) (fun h => ?_)
  · have h : L.length = 60 := by
      have h : ((((L.map bkA).length : Nat) : Int) == 60) = true := h
      rw [hml] at h
      have := beq_iff_eq.1 h
      omega
    rw [if_pos h] at hg
    repeat (refine Run.go rfl ?_)
    exact Run.ret hg rfl rfl
  · have h : ¬ L.length = 60 := by
      have h : ((((L.map bkA).length : Nat) : Int) == 60) = false := h
      rw [hml, beq_eq_false_iff_ne] at h
      omega
    rw [if_neg h] at hg
    repeat (refine Run.go rfl ?_)
    refine Run.cs rfl (firstOfB_ct L e 91 [.rp (bkA b).cells 0] (fun x => decide (0 < uc x b)) (by omega) rfl fun x _ => placeFor1_ct x b) rfl rfl ?_
    repeat (refine Run.go rfl ?_)
    exact Run.ret hg rfl rfl
end Go.Proofs.YtbkelajnngdimaaGreatDoor

/- Contracts of the program's functions, and what follows from them. -/
set_option maxRecDepth 100000
namespace Go.Proofs.YtbkelajnngdimaaGreatDoor
open Go Go.Av
theorem lwu8 {n : Int} (h : (Lit.int .u8 n).wf = true) : 0 ≤ n ∧ n ≤ 255 := by
  simpa [Lit.wf, IntKind.min, IntKind.max, IntKind.signed, IntKind.bits] using h
theorem rr_frz (R : Rk) (c : Int) : (AV.tup [rkO false R, i64 c]).frz = .tup [rkR false R, i64 c] := by
  show AV.tup [(rkO false R).frz, i64 c] = _
  rw [rk_frz]
theorem rr_rf (R : Rk) (c : Int) : (AV.tup [rkO false R, i64 c]).rf = true := by
  simp only [AV.rf, AV.rfL, rk_rf]
  rfl
theorem aa_frz (R : Rk) (s c : Int) : (AV.tup [rkO false R, i64 s, i64 c]).frz = .tup [rkR false R, i64 s, i64 c] := by
  show AV.tup [(rkO false R).frz, i64 s, i64 c] = _
  rw [rk_frz]
theorem aa_rf (R : Rk) (s c : Int) : (AV.tup [rkO false R, i64 s, i64 c]).rf = true := by
  simp only [AV.rf, AV.rfL, rk_rf]
  rfl
theorem s2_frz (R Q : Rk) (c : Int) : (AV.tup [rkO false R, rkO false Q, i64 c]).frz = .tup [rkR false R, rkR false Q, i64 c] := by
  show AV.tup [(rkO false R).frz, (rkO false Q).frz, i64 c] = _
  rw [rk_frz, rk_frz]
theorem s2_rf (R Q : Rk) (c : Int) : (AV.tup [rkO false R, rkO false Q, i64 c]).rf = true := by
  simp only [AV.rf, AV.rfL, rk_rf]
  rfl
theorem bi_frz (L : List Bk) : (AV.tup [.own 8 false (L.map bkA), i64 0]).frz = .tup [.ro 8 false (L.map bkA), i64 0] := by
  show AV.tup [.ro 8 false (AV.frzL (L.map bkA)), i64 0] = _
  rw [frzB]
theorem bi_rf (L : List Bk) : (AV.tup [.own 8 false (L.map bkA), i64 0]).rf = true := by
  simp only [AV.rf, AV.rfL, rfB]
  rfl
theorem fp_frz (L : List Int) : (AV.tup [.own 1 false (L.map i64), i64 0]).frz = .tup [.ro 1 false (L.map i64), i64 0] := by
  show AV.tup [.ro 1 false (AV.frzL (L.map i64)), i64 0] = _
  rw [frz64]
theorem fp_rf (L : List Int) : (AV.tup [.own 1 false (L.map i64), i64 0]).rf = true := by
  simp only [AV.rf, AV.rfL, rf64]
  rfl
theorem rkT_len {r : Rk} (hr : rkOk r) (h : vR r = true) (hl : r.bs.length ≤ 60) : (rkT r).length ≤ 1048576 := by
  have hn := vR_num hr h
  have := lns_len (l := r.bs) (tx := plT) (n := 1000) fun x hx => plT_len (hn.2 x hx).2 (hn.2 x hx).1.2
  have h3 := dcN_len (n := r.pl) (by have := hn.1; omega)
  simp only [rkT, List.length_append, List.length_cons, List.length_nil]
  omega
theorem one_ad {N : Nat} {l : List Pl} {b : Bk} (h : VR (N : Nat) l) (hr : ∀ x ∈ l, bkRng x.b) (hb : bOk b) :
    ∃ (G : Rk) (s : Nat) (c : Int), (if vB b = true then aaRes ⟨(N : Nat), l⟩ [b] else (rk0, 0, 1)) = (G, s, c) ∧
      (if (l.length : Int) = (N : Nat) then AV.tup [i64 0, i64 3] else .tup [i64 (adM (N : Nat) l b : Nat), i64 0]) = .tup [i64 (s : Nat), i64 c] ∧
      ((c = 0 ∧ (l.length : Int) < (N : Nat) ∧ G = ⟨(N : Nat), adL (N : Nat) l b⟩ ∧ s = adM (N : Nat) l b) ∨ (c = 3 ∧ (l.length : Int) = (N : Nat) ∧ G = rk0 ∧ s = 0)) := by
  have hv := (h.ok hr).2
  have hvb : vBs [b] = true := by simp [vBs, hb.2]
  rw [if_pos hb.2, aaRes, if_pos hv, if_pos hvb]
  show ∃ (G : Rk) (s : Nat) (c : Int), (if (l.length : Int) = (N : Nat) then (rk0, 0, 3) else (⟨(N : Nat), adL (N : Nat) l b⟩, 0 + adM (N : Nat) l b, 0)) = (G, s, c) ∧ _
  by_cases e : (l.length : Int) = (N : Nat)
  · rw [if_pos e, if_pos e]
    exact ⟨rk0, 0, 3, rfl, rfl, .inr ⟨rfl, e, rfl, rfl⟩⟩
  · have := h.len
    rw [if_neg e, if_neg e, Nat.zero_add]
    exact ⟨_, _, 0, rfl, rfl, .inl ⟨rfl, by omega, rfl, rfl⟩⟩
theorem spl_any {N : Nat} {l : List Pl} (t : Int) (h : VR (N : Nat) l) :
    ∃ (A B : Rk) (c : Int), splA (N : Nat) t l = .tup [rkO false A, rkO false B, i64 c] ∧ ((c = 0 ∧ (1 ≤ t ∧ t ≤ (N : Nat) - 1) ∧ A = ⟨t, spL l t⟩ ∧ B = ⟨(N : Nat) - t, spR l t⟩) ∨ (c = 2 ∧ ¬ (1 ≤ t ∧ t ≤ (N : Nat) - 1) ∧ A = rk0 ∧ B = rk0)) := by
  unfold splA
  by_cases e : 1 ≤ t ∧ t ≤ ((N : Nat) : Int) - 1
  · rw [if_pos e]
    exact ⟨_, _, 0, rfl, .inl ⟨rfl, e, rfl, rfl⟩⟩
  · rw [if_neg e]
    exact ⟨_, _, 2, rfl, .inr ⟨rfl, e, rfl, rfl⟩⟩
theorem VR.rk {n : Int} {l : List Pl} (h : VR n l) (hr : ∀ x ∈ l, bkRng x.b) : l.length ≤ 1048576 ∧ ∀ x ∈ l, plRng x := by
  have := (h.ok hr).1
  exact ⟨this.1.2, this.2⟩
theorem sp_rng {n : Int} {L : List Bk} (h : ∀ x ∈ L, bkRng x) : ∀ x ∈ sp n L, bkRng x.b := fun x hx => by
  have hm : x.b ∈ pbs (sp n L) := List.mem_map.2 ⟨x, hx, rfl⟩
  rw [sp_pbs] at hm
  exact h _ hm
noncomputable def X3 : Fx := ⟨Tryz.prog, tys, 3, Tryz.f3, [0, 1]⟩
theorem X3_ok : X3.Ok := ⟨Tryz.func3, tys_ok⟩
set_option maxHeartbeats 16000000 in
theorem lawRacks_ct (ex ex' : Bool) (C C' : List Int) (hb : ∀ x ∈ C, 0 ≤ x ∧ x ≤ 255) (hb' : ∀ x ∈ C', 0 ≤ x ∧ x ≤ 255) : CtA ambA Tryz.prog 3 [.ro 1 ex (C.map u8), .ro 1 ex' (C'.map u8)] (bo true) [] := by
  have hml : ∀ D : List Int, (D.map u8).length = D.length := fun D => List.length_map ..
  refine CtA.intro ambA X3 X3_ok rfl (by kernel_rfl) rfl rfl fun g hA hg => ?_
  have hAT := ambA_T hA
  repeat (refine Run.go rfl ?_)
  refine Run.cs rfl (f6big_ct ex (C.map u8)) rfl rfl ?_
  repeat (refine Run.go rfl ?_)
  refine Run.bool 61 rfl (fun h => ?_) (fun hB1 => ?_)
  · repeat (refine Run.go rfl ?_)
    refine Run.cond rfl (fun _ => ?_) (fun h => by simp at h)
    repeat (refine Run.go rfl ?_)
    exact Run.ret hg rfl rfl
  repeat (refine Run.go rfl ?_)
  refine Run.cs rfl (f6big_ct ex' (C'.map u8)) rfl rfl ?_
  repeat (refine Run.go rfl ?_)
  refine Run.cond rfl (fun _ => ?_) (fun hB2 => ?_)
  · repeat (refine Run.go rfl ?_)
    exact Run.ret hg rfl rfl
  have hB1 : decide (4096 < (C.map u8).length) = false := hB1
  have hB2 : decide (4096 < (C'.map u8).length) = false := hB2
  simp only [decide_eq_false_iff_not, hml] at hB1 hB2
  have hC : C.length ≤ 1048576 := by omega
  have hC' : C'.length ≤ 1048576 := by omega
  obtain ⟨r, hV, hBr, cR⟩ := P6Rack_ct ex C hC hb
  obtain ⟨n, l⟩ := r
  simp only at hV hBr
  obtain ⟨N, rfl⟩ : ∃ N : Nat, n = N := ⟨n.toNat, by have := hV.hn; omega⟩
  obtain ⟨b, hb1, hb2, cBk⟩ := P6Book_ct ex' C' hC' hb'
  have hbO : bOk b := ⟨hb2, hb1⟩
  have hnN := hV.hn
  have hlN := hV.len
  obtain ⟨hrk, hvR⟩ := hV.ok hBr
  obtain ⟨hlr, hplr⟩ := hV.rk hBr
  have cT := implRackText_ct ⟨(N : Nat), l⟩ false hrk
  rw [show rtRes ⟨(N : Nat), l⟩ = rkT ⟨(N : Nat), l⟩ by simp [rtRes, hvR]] at cT
  have cRR := implReadRack_ct (rkT ⟨(N : Nat), l⟩) (rkT_len hrk hvR (by show l.length ≤ 60; omega))
  rw [rk_eq, rkS_rkT hvR] at cRR
  have cBI := implBooksIn_ct ⟨(N : Nat), l⟩ false hV hBr
  have cFP := implFreePlaces_ct l N false hV hBr
  have hfc := free_cnt hV
  obtain ⟨G, s, c, eA, eN, hcase⟩ := one_ad hV hBr hbO
  have cA1 := implAddBook_ct ⟨(N : Nat), l⟩ false b hrk hb2
  have cA2 := specAddBook_ct ⟨(N : Nat), l⟩ false b hrk hb2
  have cNM := NeedsMoved_ct ⟨(N : Nat), l⟩ false b hV hBr hbO
  rw [eA] at cA1 cA2
  rw [eN] at cNM
  have cR1 := implRoomFor_ct ⟨(N : Nat), l⟩ false b hV hBr hbO
  have cR2 := specRoomFor_ct ⟨(N : Nat), l⟩ false b hV hBr hbO
  have cVR := implValidRack_ct ⟨(N : Nat), l⟩ false hrk
  rw [hvR] at cVR
  have cSR := specSameRack_ct ⟨(N : Nat), l⟩ false false hlr hplr
  have cIR := implSameRack_ct ⟨(N : Nat), l⟩ false false hlr hplr
  have hpl := pbs_len l
  have hGr : G.bs.length ≤ 1048576 ∧ ∀ x ∈ G.bs, plRng x := by
    rcases hcase with ⟨_, h1, rfl, _⟩ | ⟨_, _, rfl, _⟩
    · have ha := ad_ok hV h1 hBr hb2 hb1
      exact ha.vD.rk fun x hx => by
        rcases ha.rD x hx with e | ⟨y, hy, e⟩
        · rw [e]; exact hb2
        · rw [e]; exact hBr y hy
    · exact ⟨by simp [rk0], fun x hx => by simp [rk0] at hx⟩
  have cSG := specSameRack_ct G false false hGr.1 hGr.2
  generalize hFRd : idxs (fun b : Bool => !b) (tk l N) = FR at cFP hfc
  generalize hfrd : fr l (idx l b) = frv at cR1 cR2
  generalize hrmd : rm (N : Nat) l (idx l b) = rmv at cR1 cR2
  simp only at cBI
  have hlPB : (((pbs l).map bkA).length : Nat) = l.length := by rw [List.length_map, hpl]
  have hlPl : ((l.map plA).length : Nat) = l.length := List.length_map ..
  have hlFR : ((FR.map i64).length : Nat) = FR.length := List.length_map ..
  have hw : IntKind.i64.wrap ((N : Nat) : Int) = (N : Nat) := wrap_i64 (by omega) (by omega)
  repeat (refine Run.go rfl ?_)
  refine Run.cs rfl cR rfl (rk_rf _ _) ?_
  refine Run.freeze (v' := rkR false ⟨(N : Nat), l⟩) 66 rfl rfl (rk_frz _ _) ?_
  repeat (refine Run.go rfl ?_)
  refine Run.freezeBox 5 (5, 0) (rkR false ⟨(N : Nat), l⟩).cells rfl rfl rfl rfl ?_
  refine Run.cs rfl cBk rfl rfl ?_
  repeat (refine Run.go rfl ?_)
  refine Run.freezeBox 6 (6, 0) (bkA b).cells rfl rfl rfl rfl ?_
  refine Run.csA rfl (cT.at hAT) rfl rfl ?_
  refine Run.csA rfl (cRR.at hA) rfl (rr_rf _ _) ?_
  refine Run.freeze 72 rfl rfl (rr_frz _ _) ?_
  repeat (refine Run.go rfl ?_)
  refine Run.cs rfl cBI rfl (bi_rf _) ?_
  refine Run.freeze 77 rfl rfl (bi_frz _) ?_
  repeat (refine Run.go rfl ?_)
  refine Run.cs rfl cFP rfl (fp_rf _) ?_
  refine Run.freeze 82 rfl rfl (fp_frz _) ?_
  repeat (refine Run.go rfl ?_)
  refine Run.cs rfl cA1 rfl (aa_rf _ _ _) ?_
  refine Run.freeze 88 rfl rfl (aa_frz _ _ _) ?_
  repeat (refine Run.go rfl ?_)
  refine Run.cs rfl cA2 rfl (aa_rf _ _ _) ?_
  refine Run.freeze 95 rfl rfl (aa_frz _ _ _) ?_
  repeat (refine Run.go rfl ?_)
  refine Run.freezeBox 16 (16, 0) (rkR false G).cells rfl rfl rfl rfl ?_
  refine Run.cs rfl cNM rfl rfl ?_
  repeat (refine Run.go rfl ?_)
  refine Run.cs rfl cR1 rfl rfl ?_
  repeat (refine Run.go rfl ?_)
  refine Run.cs rfl cR2 rfl rfl ?_
  repeat (refine Run.go rfl ?_)
  refine Run.cs rfl cSR rfl rfl ?_
  repeat (refine Run.go rfl ?_)
  refine Run.cs rfl cIR rfl rfl ?_
  repeat (refine Run.go rfl ?_)
  refine Run.cs rfl cVR rfl rfl ?_
  repeat (refine Run.go rfl ?_)
  refine Run.bool 150 rfl (fun h => ?_) (fun _ => ?_)
  · exfalso
    have h : ((((pbs l).map bkA).length : Nat) != (((l.map plA).length : Nat) : Int)) = true := h
    rw [hlPB, hlPl] at h
    simp at h
  repeat (refine Run.go rfl ?_)
  refine Run.bool 165 rfl (fun h => ?_) (fun _ => ?_)
  · exfalso
    have h : (IntKind.i64.wrap (((FR.map i64).length : Nat) + (((pbs l).map bkA).length : Nat)) != IntKind.i64.wrap ((N : Nat) : Int)) = true := h
    rw [hlPB, hlFR, hw, wrap_i64 (by omega) (by omega)] at h
    simp at h
    omega
  repeat (refine Run.go rfl ?_)
  refine Run.bool 170 rfl (fun h => by simp at h) (fun _ => ?_)
  repeat (refine Run.go rfl ?_)
  refine Run.cs rfl cSG rfl rfl ?_
  repeat (refine Run.go rfl ?_)
  refine Run.bool 181 rfl (fun h => by simp at h) (fun _ => ?_)
  repeat (refine Run.go rfl ?_)
  refine Run.bool 186 rfl (fun h => by simp at h) (fun _ => ?_)
  repeat (refine Run.go rfl ?_)
  refine Run.bool 191 rfl (fun h => by simp at h) (fun _ => ?_)
  repeat (refine Run.go rfl ?_)
  refine Run.bool 205 rfl (fun h => by simp at h) (fun _ => ?_)
  repeat (refine Run.go rfl ?_)
  refine Run.bool 210 rfl (fun h => by simp at h) (fun _ => ?_)
  repeat (refine Run.go rfl ?_)
  refine Run.cond rfl (fun h => ?_) (fun _ => ?_)
  · exfalso
    have h : ((c == 0) != decide ((((FR.map i64).length : Nat) : Int) > 0)) = true := h
    rw [hlFR] at h
    rcases hcase with ⟨rfl, h1, _, _⟩ | ⟨rfl, h1, _, _⟩
    · rw [decide_eq_true (by omega)] at h; simp at h
    · rw [decide_eq_false (by omega)] at h; simp at h
  repeat (refine Run.go rfl ?_)
  refine Run.le (st' := ⟨[(1, .ro 1 ex' (C'.map u8)), (5, .rp (rkR false ⟨(N : Nat), l⟩).cells 0), (6, .rp (bkA b).cells 0), (9, .ro 8 false ((pbs l).map bkA)), (15, i64 c), (16, .rp (rkR false G).cells 0), (17, i64 (s : Nat)), (25, i64 rmv), (219, bo (c == 0))], []⟩) (St.Le.mk' ⟨rfl, rfl, rfl, rfl, rfl, rfl, rfl, rfl, rfl, trivial⟩ trivial) ?_
  clear cA1 cA2 cNM cR1 cR2 cT cRR cBI cFP cBk cR cIR eA eN
  have hpr : (pbs l).length ≤ 1048576 ∧ ∀ x ∈ pbs l, bkRng x := ⟨by omega, fun x hx => by
    obtain ⟨y, hy, rfl⟩ := List.mem_map.1 hx
    exact hBr y hy⟩
  obtain ⟨hvB, hsB⟩ := FillRack_ok hV hBr
  have cSB := specSameBooks_ct (pbs l) (pbs l) false false hpr hpr
  rw [decide_eq_true rfl] at cSB
  refine Run.condJ ⟨[(1, .ro 1 ex' (C'.map u8)), (5, .rp (rkR false ⟨(N : Nat), l⟩).cells 0), (9, .ro 8 false ((pbs l).map bkA))], []⟩ rfl (fun h k' hN => ?_) (fun h k' hN => ?_) ?_
  · have hc : c = 0 := by simpa using h
    rcases hcase with ⟨-, hlt, rfl, rfl⟩ | ⟨h1, _⟩
    rotate_left
    · omega
    have ha := ad_ok hV hlt hBr hb2 hb1
    have hDr : ∀ x ∈ adL (N : Nat) l b, bkRng x.b := fun x hx => by
      rcases ha.rD x hx with e | ⟨y, hy, e⟩
      · rw [e]; exact hb2
      · rw [e]; exact hBr y hy
    have hpD : (pbs (adL (N : Nat) l b))[idx l b]? = some b := by
      rw [pbs, List.getElem?_map, ha.at']; rfl
    have hSr : ∀ x ∈ sh (N : Nat) l (idx l b), bkRng x.b := fun x hx => by
      have hm : x.b ∈ pbs (sh (N : Nat) l (idx l b)) := List.mem_map.2 ⟨x, hx, rfl⟩
      rw [ha.pb] at hm
      exact hpr.2 _ hm
    have hpS := ha.pb
    have hidx := idx_pbs l b
    have hil := idx_le l b
    have hroom := ha.room
    rw [hrmd] at hroom
    clear hrmd hfrd
    have cPF := PlaceFor_ct (pbs l) false b (by omega) hvB hsB hbO
    rw [← hidx] at cPF
    generalize adL (N : Nat) l b = W at *
    generalize adM (N : Nat) l b = m at *
    generalize sh (N : Nat) l (idx l b) = S at *
    generalize nat' (N : Nat) l (idx l b) = q at *
    generalize idx l b = k at *
    clear hidx
    have hDl := ha.len
    have hSl := ha.lenS
    have cBD := implBooksIn_ct ⟨(N : Nat), W⟩ false ha.vD hDr
    have cVD := implValidRack_ct ⟨(N : Nat), W⟩ false (ha.vD.ok hDr).1
    rw [(ha.vD.ok hDr).2] at cVD
    have cTB := implTakeBook_ct ⟨(N : Nat), W⟩ false q (ha.vD.ok hDr).1
    have hin : inr q 0 ((N : Nat) - 1) = true := by have := ha.rng; simp [inr]; omega
    rw [show tkRes ⟨(N : Nat), W⟩ q = (⟨(N : Nat), S⟩, 0) by rw [tkRes, if_pos (ha.vD.ok hDr).2]; simp only; rw [if_pos hin, if_pos ha.has, ha.out]] at cTB
    have cBS := implBooksIn_ct ⟨(N : Nat), S⟩ false ha.vS hSr
    have cMA := MoveApart_ct (N : Nat) l S false false hV ha.vS hBr hSr ha.pb
    rw [ha.apart] at cMA
    simp only at cBD cBS
    rw [hpS] at cBS
    have hlpD : (((pbs W).map bkA).length : Nat) = l.length + 1 := by rw [List.length_map, pbs_len, hDl]
    have hpDl := pbs_len W
    have hqr := ha.rng
    repeat (refine Run.go rfl ?_)
    refine Run.cs rfl cBD rfl (bi_rf _) ?_
    refine Run.freeze 222 rfl rfl (bi_frz _) ?_
    repeat (refine Run.go rfl ?_)
    have hPF : ∃ p0 e0 : Int, (if (pbs l).length = 60 then AV.tup [i64 0, i64 3] else .tup [i64 (k : Nat), i64 0]) = .tup [i64 p0, i64 e0] ∧ (e0 = 0 → p0 = (k : Nat)) := by
      split
      · exact ⟨0, 3, rfl, fun h => by omega⟩
      · exact ⟨(k : Nat), 0, rfl, fun _ => rfl⟩
    obtain ⟨p0, e0, hPF1, hPF2⟩ := hPF
    rw [hPF1] at cPF
    refine Run.cs rfl cPF rfl rfl ?_
    repeat (refine Run.go rfl ?_)
    refine Run.cs rfl cVD rfl rfl ?_
    repeat (refine Run.go rfl ?_)
    refine Run.bool 246 rfl (fun h => ?_) (fun _ => ?_)
    · exfalso
      have h : ((((pbs W).map bkA).length : Nat) != IntKind.i64.wrap ((((pbs l).map bkA).length : Nat) + 1)) = true := h
      rw [hlpD, hlPB, wrap_i64 (by omega) (by omega)] at h
      simp at h
    repeat (refine Run.go rfl ?_)
    refine Run.bool 253 rfl (fun h => ?_) (fun _ => ?_)
    · exfalso
      have h : ((((m : Nat) : Int) == 0) != decide (rmv > 0)) = true := h
      have hr := hroom
      by_cases e : m = 0
      · have := hr.1 e
        rw [e, decide_eq_true (by omega)] at h
        simp at h
      · have : ¬ rmv > 0 := fun e2 => e (hr.2 e2)
        rw [decide_eq_false this] at h
        simp at h
        exact e (by exact_mod_cast h)
    repeat (refine Run.go rfl ?_)
    refine Run.cond rfl (fun h => ?_) (fun _ => ?_)
    · exfalso
      have := of_decide_eq_true h
      rw [hlPB] at this
      have := ha.le
      omega
    repeat (refine Run.go rfl ?_)
    refine Run.cond rfl (fun h => ?_) (fun h => ?_)
    rotate_left
    · repeat (refine Run.go rfl ?_)
      exact Run.of hN ⟨rfl, rfl, rfl, trivial⟩ trivial
    have he0 : e0 = 0 := by simpa using h
    have hp0 := hPF2 he0
    subst he0 hp0
    have hat : ((pbs W).map bkA)[((k : Nat) : Int).toNat]? = some (bkA b) := by rw [Int.toNat_natCast, List.getElem?_map, hpD]; rfl
    have hatD : (W.map plA)[((k : Nat) : Int).toNat]? = some (plA ⟨q, b⟩) := by rw [Int.toNat_natCast, List.getElem?_map, ha.at']; rfl
    have hlDm : ((W.map plA).length : Nat) = l.length + 1 := by rw [List.length_map, hDl]
    repeat (refine Run.go rfl ?_)
    refine Run.drawS ⟨[(1, .ro 1 ex' (C'.map u8)), (5, .rp (rkR false ⟨(N : Nat), l⟩).cells 0), (9, .ro 8 false ((pbs l).map bkA)), (16, .rp (rkR false ⟨(N : Nat), W⟩).cells 0), (17, i64 (m : Nat)), (29, i64 (k : Nat)), (276, bo false)], []⟩ (by kernel_rfl) (by decide +kernel) ?_ ?_
    · repeat (refine Quiet.go rfl ?_)
      refine Quiet.bool 263 rfl (fun h => ?_) (fun _ => ?_)
      · exfalso; have := of_decide_eq_true h; omega
      repeat (refine Quiet.go rfl ?_)
      refine Quiet.bool 269 rfl (fun h => ?_) (fun _ => ?_)
      · exfalso; have := of_decide_eq_true h; rw [hlpD] at this; omega
      repeat (refine Quiet.go rfl ?_)
      refine Quiet.val rfl rfl (ValOk.idx (bkA b) rfl rfl rfl rfl rfl (by omega) hat) rfl ?_
      repeat (refine Quiet.go rfl ?_)
      refine Quiet.val rfl rfl (ValOk.neK b b rfl bkK rfl rfl hb2 hb2) rfl ?_
      repeat (refine Quiet.go rfl ?_)
      refine Quiet.nil (St.Le.mk' ⟨rfl, rfl, rfl, rfl, rfl, rfl, ?_, trivial⟩ trivial)
      show bo (!(decide (b = b))) = _
      simp
    refine Run.cond rfl (fun h => by simp at h) (fun _ => ?_)
    repeat (refine Run.go rfl ?_)
    have hq16 : IntKind.i64.wrap q = q := wrap_i64 (by omega) (by omega)
    refine Run.drawI (fun D => ⟨[(1, .ro 1 ex' (C'.map u8)), (5, .rp (rkR false ⟨(N : Nat), l⟩).cells 0), (9, .ro 8 false ((pbs l).map bkA)), (16, .rp (rkR false ⟨(N : Nat), W⟩).cells 0), (17, i64 (m : Nat)), (29, i64 (k : Nat)), (278, bif D 0 then rkR false ⟨(N : Nat), W⟩ else .top), (279, bif D 1 then .rp (rkR false ⟨(N : Nat), W⟩).cells 1 else .top), (280, bif D 2 then .ro 9 false (W.map plA) else .top), (281, bif D 3 then i64 (k : Nat) else .top), (282, bif D 4 then .rp (plA ⟨q, b⟩).cells 0 else .top), (283, bif D 5 then .rp (plA ⟨q, b⟩).cells 0 else .top), (284, bif D 6 then i16 q else .top), (285, bif D 7 then i64 q else .top), (286, bif D 9 then .top else bif D 8 then .tup [rkR false ⟨(N : Nat), S⟩, i64 0] else .top), (277, bif D 9 then .tup [rkR false ⟨(N : Nat), S⟩, i64 0] else .top), (287, bif D 10 then rkR false ⟨(N : Nat), S⟩ else .top), (288, bif D 11 then i64 0 else .top), (31, bif D 12 then .bp (31, 0) 0 else .top), (32, bif D 14 then i64 0 else .top)], [((31, 0), (bif D 13 then Ob.box (rkR false ⟨(N : Nat), S⟩).cells else (bif D 12 then Ob.box [i16 0, .lit (.slice none 0 0)] else Ob.gone)))]⟩) (by decide +kernel) (by decide +kernel) ?_ ?_ fun k' => ⟨?_, ?_, ?_, ?_, ?_, ?_, ?_, ?_, ?_, ?_, ?_, ?_, ?_, ?_, ?_, trivial⟩
    · exact St.Le.mk' ⟨rfl, rfl, rfl, rfl, rfl, rfl, rfl, rfl, rfl, rfl, rfl, rfl, rfl, rfl, rfl, rfl, rfl, rfl, rfl, rfl, trivial⟩ ⟨rfl, trivial⟩
    rotate_left
    · intro D hid h0 hp hs rest hK
      obtain ⟨d8, -⟩ : AllD D false [8] := ideal_sub hs (by decide +kernel)
      simp only [d8, h0, cond_true, cond_false]
      refine Run.go rfl ?_
      refine Run.le ?_ hK
      simp only [d8, h0, Nat.reduceBEq, Bool.false_or, Bool.true_or, cond_true, cond_false]
      exact St.Le.mk' ⟨rfl, rfl, rfl, rfl, rfl, rfl, rfl, rfl, rfl, rfl, rfl, rfl, rfl, rfl, rfl, rfl, rfl, rfl, rfl, rfl, trivial⟩ ⟨rfl, trivial⟩
    · intro D hid h0 hp hs rest hK
      obtain ⟨d2, -⟩ : AllD D false [2] := ideal_sub hs (by decide +kernel)
      simp only [d2, h0, cond_true, cond_false]
      refine Run.go rfl ?_
      refine Run.le ?_ hK
      simp only [d2, h0, Nat.reduceBEq, Bool.false_or, Bool.true_or, cond_true, cond_false]
      exact St.Le.mk' ⟨rfl, rfl, rfl, rfl, rfl, rfl, rfl, rfl, rfl, rfl, rfl, rfl, rfl, rfl, rfl, rfl, rfl, rfl, rfl, rfl, trivial⟩ ⟨rfl, trivial⟩
    · intro D hid h0 hp hs rest hK
      obtain ⟨d1, -⟩ : AllD D true [1] := ideal_sub hp (by decide +kernel)
      obtain ⟨d4, -⟩ : AllD D false [4] := ideal_sub hs (by decide +kernel)
      simp only [d1, d4, h0, cond_true, cond_false]
      refine Run.go rfl ?_
      refine Run.le ?_ hK
      simp only [d1, d4, h0, Nat.reduceBEq, Bool.false_or, Bool.true_or, cond_true, cond_false]
      exact St.Le.mk' ⟨rfl, rfl, rfl, rfl, rfl, rfl, rfl, rfl, rfl, rfl, rfl, rfl, rfl, rfl, rfl, rfl, rfl, rfl, rfl, rfl, trivial⟩ ⟨rfl, trivial⟩
    · intro D hid h0 hp hs rest hK
      obtain ⟨d4, -⟩ : AllD D false [4] := ideal_sub hs (by decide +kernel)
      simp only [d4, h0, cond_true, cond_false]
      refine Run.go rfl ?_
      refine Run.le ?_ hK
      simp only [d4, h0, Nat.reduceBEq, Bool.false_or, Bool.true_or, cond_true, cond_false]
      exact St.Le.mk' ⟨rfl, rfl, rfl, rfl, rfl, rfl, rfl, rfl, rfl, rfl, rfl, rfl, rfl, rfl, rfl, rfl, rfl, rfl, rfl, rfl, trivial⟩ ⟨rfl, trivial⟩
    · intro D hid h0 hp hs rest hK
      obtain ⟨d2, d3, -⟩ : AllD D true [2, 3] := ideal_sub hp (by decide +kernel)
      obtain ⟨d5, -⟩ : AllD D false [5] := ideal_sub hs (by decide +kernel)
      simp only [d2, d3, d5, h0, cond_true, cond_false]
      refine Run.val rfl rfl rfl (ValOk.idx (plA ⟨q, b⟩) rfl rfl rfl rfl rfl (by omega) hatD) rfl ?_
      refine Run.le ?_ hK
      simp only [d2, d3, d5, h0, Nat.reduceBEq, Bool.false_or, Bool.true_or, cond_true, cond_false]
      exact St.Le.mk' ⟨rfl, rfl, rfl, rfl, rfl, rfl, rfl, rfl, rfl, rfl, rfl, rfl, rfl, rfl, rfl, rfl, rfl, rfl, rfl, rfl, trivial⟩ ⟨rfl, trivial⟩
    · intro D hid h0 hp hs rest hK
      obtain ⟨d4, -⟩ : AllD D true [4] := ideal_sub hp (by decide +kernel)
      obtain ⟨d6, -⟩ : AllD D false [6] := ideal_sub hs (by decide +kernel)
      simp only [d4, d6, h0, cond_true, cond_false]
      refine Run.go rfl ?_
      refine Run.le ?_ hK
      simp only [d4, d6, h0, Nat.reduceBEq, Bool.false_or, Bool.true_or, cond_true, cond_false]
      exact St.Le.mk' ⟨rfl, rfl, rfl, rfl, rfl, rfl, rfl, rfl, rfl, rfl, rfl, rfl, rfl, rfl, rfl, rfl, rfl, rfl, rfl, rfl, trivial⟩ ⟨rfl, trivial⟩
    · intro D hid h0 hp hs rest hK
      obtain ⟨d5, -⟩ : AllD D true [5] := ideal_sub hp (by decide +kernel)
      obtain ⟨d7, -⟩ : AllD D false [7] := ideal_sub hs (by decide +kernel)
      simp only [d5, d7, h0, cond_true, cond_false]
      refine Run.go rfl ?_
      refine Run.le ?_ hK
      simp only [d5, d7, h0, Nat.reduceBEq, Bool.false_or, Bool.true_or, cond_true, cond_false]
      exact St.Le.mk' ⟨rfl, rfl, rfl, rfl, rfl, rfl, rfl, rfl, rfl, rfl, rfl, rfl, rfl, rfl, rfl, rfl, rfl, rfl, rfl, rfl, trivial⟩ ⟨rfl, trivial⟩
    · intro D hid h0 hp hs rest hK
      obtain ⟨d6, -⟩ : AllD D true [6] := ideal_sub hp (by decide +kernel)
      obtain ⟨d8, -⟩ : AllD D false [8] := ideal_sub hs (by decide +kernel)
      simp only [d6, d8, h0, cond_true, cond_false]
      refine Run.go rfl ?_
      rw [hq16]
      refine Run.le ?_ hK
      simp only [d6, d8, h0, Nat.reduceBEq, Bool.false_or, Bool.true_or, cond_true, cond_false]
      exact St.Le.mk' ⟨rfl, rfl, rfl, rfl, rfl, rfl, rfl, rfl, rfl, rfl, rfl, rfl, rfl, rfl, rfl, rfl, rfl, rfl, rfl, rfl, trivial⟩ ⟨rfl, trivial⟩
    · intro D hid h0 hp hs rest hK
      obtain ⟨d0, d7, -⟩ : AllD D true [0, 7] := ideal_sub hp (by decide +kernel)
      obtain ⟨d9, -⟩ : AllD D false [9] := ideal_sub hs (by decide +kernel)
      simp only [d0, d7, d9, h0, cond_true, cond_false]
      refine Run.cs rfl cTB rfl (rr_rf _ _) ?_
      refine Run.freeze 286 rfl rfl (rr_frz _ _) ?_
      refine Run.le ?_ hK
      simp only [d0, d7, d9, h0, Nat.reduceBEq, Bool.false_or, Bool.true_or, cond_true, cond_false]
      exact St.Le.mk' ⟨rfl, rfl, rfl, rfl, rfl, rfl, rfl, rfl, rfl, rfl, rfl, rfl, rfl, rfl, rfl, rfl, rfl, rfl, rfl, rfl, trivial⟩ ⟨rfl, trivial⟩
    · intro D hid h0 hp hs rest hK
      obtain ⟨d8, -⟩ : AllD D true [8] := ideal_sub hp (by decide +kernel)
      obtain ⟨d10, d11, -⟩ : AllD D false [10, 11] := ideal_sub hs (by decide +kernel)
      simp only [d8, d10, d11, h0, cond_true, cond_false]
      refine Run.go rfl ?_
      refine Run.le ?_ hK
      simp only [d8, d10, d11, h0, Nat.reduceBEq, Bool.false_or, Bool.true_or, cond_true, cond_false]
      exact St.Le.mk' ⟨rfl, rfl, rfl, rfl, rfl, rfl, rfl, rfl, rfl, rfl, rfl, rfl, rfl, rfl, rfl, rfl, rfl, rfl, rfl, rfl, trivial⟩ ⟨rfl, trivial⟩
    · intro D hid h0 hp hs rest hK
      obtain ⟨d9, -⟩ : AllD D true [9] := ideal_sub hp (by decide +kernel)
      obtain ⟨d13, -⟩ : AllD D false [13] := ideal_sub hs (by decide +kernel)
      simp only [d9, d13, h0, cond_true, cond_false]
      refine Run.go rfl ?_
      refine Run.le ?_ hK
      simp only [d9, d13, h0, Nat.reduceBEq, Bool.false_or, Bool.true_or, cond_true, cond_false]
      exact St.Le.mk' ⟨rfl, rfl, rfl, rfl, rfl, rfl, rfl, rfl, rfl, rfl, rfl, rfl, rfl, rfl, rfl, rfl, rfl, rfl, rfl, rfl, trivial⟩ ⟨rfl, trivial⟩
    · intro D hid h0 hp hs rest hK
      obtain ⟨d9, -⟩ : AllD D true [9] := ideal_sub hp (by decide +kernel)
      obtain ⟨d14, -⟩ : AllD D false [14] := ideal_sub hs (by decide +kernel)
      simp only [d9, d14, h0, cond_true, cond_false]
      refine Run.go rfl ?_
      refine Run.le ?_ hK
      simp only [d9, d14, h0, Nat.reduceBEq, Bool.false_or, Bool.true_or, cond_true, cond_false]
      exact St.Le.mk' ⟨rfl, rfl, rfl, rfl, rfl, rfl, rfl, rfl, rfl, rfl, rfl, rfl, rfl, rfl, rfl, rfl, rfl, rfl, rfl, rfl, trivial⟩ ⟨rfl, trivial⟩
    · intro D hid h0 hp hs rest hK
      obtain ⟨d13, -⟩ : AllD D false [13] := ideal_sub hs (by decide +kernel)
      simp only [d13, h0, cond_true, cond_false]
      refine Run.alloc rfl rfl rfl rfl rfl rfl (by simp only [St.nrf, List.all_cons, List.all_nil, Bool.and_eq_true, Bool.and_true]; repeat' apply And.intro; all_goals (repeat' (first | rfl | refine nrf_bif ?_ ?_ | refine nrfO_bif ?_ ?_))) rfl ?_
      refine Run.le ?_ hK
      simp only [d13, h0, Nat.reduceBEq, Bool.false_or, Bool.true_or, cond_true, cond_false]
      exact St.Le.mk' ⟨rfl, rfl, rfl, rfl, rfl, rfl, rfl, rfl, rfl, rfl, rfl, rfl, rfl, rfl, rfl, rfl, rfl, rfl, rfl, rfl, trivial⟩ ⟨rfl, trivial⟩
    · intro D hid h0 hp hs rest hK
      obtain ⟨d10, d12, -⟩ : AllD D true [10, 12] := ideal_sub hp (by decide +kernel)
      obtain ⟨d14, -⟩ : AllD D false [14] := ideal_sub hs (by decide +kernel)
      simp only [d10, d12, d14, h0, cond_true, cond_false]
      refine Run.go rfl ?_
      refine Run.le ?_ hK
      simp only [d10, d12, d14, h0, Nat.reduceBEq, Bool.false_or, Bool.true_or, cond_true, cond_false]
      exact St.Le.mk' ⟨rfl, rfl, rfl, rfl, rfl, rfl, rfl, rfl, rfl, rfl, rfl, rfl, rfl, rfl, rfl, rfl, rfl, rfl, rfl, rfl, trivial⟩ ⟨rfl, trivial⟩
    · intro D hid h0 hp hs rest hK
      obtain ⟨d11, d13, -⟩ : AllD D true [11, 13] := ideal_sub hp (by decide +kernel)
      simp only [d11, d13, h0, cond_true, cond_false]
      refine Run.go rfl ?_
      refine Run.le ?_ hK
      simp only [d11, d13, h0, Nat.reduceBEq, Bool.false_or, Bool.true_or, cond_true, cond_false]
      exact St.Le.mk' ⟨rfl, rfl, rfl, rfl, rfl, rfl, rfl, rfl, rfl, rfl, rfl, rfl, rfl, rfl, rfl, rfl, rfl, rfl, rfl, rfl, trivial⟩ ⟨rfl, trivial⟩
    refine Run.freezeBox 31 (31, 0) (rkR false ⟨(N : Nat), S⟩).cells rfl rfl rfl rfl ?_
    refine Run.le (st' := ⟨[(1, .ro 1 ex' (C'.map u8)), (5, .rp (rkR false ⟨(N : Nat), l⟩).cells 0), (9, .ro 8 false ((pbs l).map bkA)), (17, i64 (m : Nat)), (31, .rp (rkR false ⟨(N : Nat), S⟩).cells 0), (32, i64 0)], []⟩) (St.Le.mk' ⟨rfl, rfl, rfl, rfl, rfl, rfl, trivial⟩ trivial) ?_
    repeat (refine Run.go rfl ?_)
    refine Run.cs rfl cBS rfl (bi_rf _) ?_
    refine Run.freeze 291 rfl rfl (bi_frz _) ?_
    repeat (refine Run.go rfl ?_)
    refine Run.cs rfl cSB rfl rfl ?_
    repeat (refine Run.go rfl ?_)
    refine Run.regTo ⟨[(1, .ro 1 ex' (C'.map u8)), (5, .rp (rkR false ⟨(N : Nat), l⟩).cells 0), (9, .ro 8 false ((pbs l).map bkA)), (17, i64 (m : Nat)), (31, .rp (rkR false ⟨(N : Nat), S⟩).cells 0), (315, bo false)], []⟩ (fun k'' hN2 => ?_) ?_
    · refine Run.bool 309 rfl (fun h => ?_) (fun _ => ?_)
      · have hm0 : m = 0 := by
          have h : (((m : Nat) : Int) == 0) = true := h
          simpa using h
        have hSe := ha.zero hm0
        rw [hSe] at hN2 ⊢
        repeat (refine Run.go rfl ?_)
        refine Run.cs rfl cSR rfl rfl ?_
        repeat (refine Run.go rfl ?_)
        exact Run.of hN2 ⟨rfl, rfl, rfl, rfl, rfl, rfl, trivial⟩ trivial
      · repeat (refine Run.go rfl ?_)
        exact Run.of hN2 ⟨rfl, rfl, rfl, rfl, rfl, rfl, trivial⟩ trivial
    repeat (refine Run.go rfl ?_)
    refine Run.cond rfl (fun h => by simp at h) (fun _ => ?_)
    repeat (refine Run.go rfl ?_)
    refine Run.cs rfl cMA rfl rfl ?_
    repeat (refine Run.go rfl ?_)
    refine Run.cond rfl (fun h => ?_) (fun _ => ?_)
    · exfalso
      have h : (((m : Nat) : Int) != ((m : Nat) : Int)) = true := h
      simp at h
    repeat (refine Run.go rfl ?_)
    exact Run.of hN ⟨rfl, rfl, rfl, trivial⟩ trivial
  · have hc : c ≠ 0 := by simpa using h
    rcases hcase with ⟨h1, _⟩ | ⟨rfl, _⟩
    · exact absurd h1 hc
    repeat (refine Run.go rfl ?_)
    refine Run.cond rfl (fun h => by simp at h) (fun _ => ?_)
    repeat (refine Run.go rfl ?_)
    exact Run.of hN ⟨rfl, rfl, rfl, trivial⟩ trivial
  clear hcase hGr cSG hrmd hfrd
  have hvS := hV.spread
  have hSr := sp_rng (n := (N : Nat)) hpr.2
  have cS1 := implSpreadRack_ct ⟨(N : Nat), l⟩ false hV hBr
  have cS2 := specSpreadRack_ct ⟨(N : Nat), l⟩ false hV hBr
  have cS3 := implSpreadRack_ct ⟨(N : Nat), sp (N : Nat) (pbs l)⟩ false hvS hSr
  have cBM := implBooksIn_ct ⟨(N : Nat), sp (N : Nat) (pbs l)⟩ false hvS hSr
  have cVM := implValidRack_ct ⟨(N : Nat), sp (N : Nat) (pbs l)⟩ false (hvS.ok hSr).1
  rw [(hvS.ok hSr).2] at cVM
  have cFR := implFillRack_ct (N : Nat) (pbs l) false hpr.1
  have hinN : inr ((N : Nat) : Int) 1 60 = true := by simp [inr]; omega
  rw [show fkRes ((N : Nat) : Int) (pbs l) = (⟨(N : Nat), sp (N : Nat) (pbs l)⟩, 0) by rw [fkRes, if_pos hvB, if_pos hinN, if_pos hsB, if_neg (by omega)]] at cFR
  obtain ⟨hmr, hmp⟩ := hvS.rk hSr
  have cSM := specSameRack_ct ⟨(N : Nat), sp (N : Nat) (pbs l)⟩ false false hmr hmp
  simp only at cS1 cS2 cS3 cBM
  rw [sp_pbs] at cS3 cBM
  have hel0 : els (sp (N : Nat) (pbs l)) (sp (N : Nat) (pbs l)) (sp (N : Nat) (pbs l)).length = 0 := by
    have : ∀ (m : List Pl) j, els m m j = 0 := fun m j => by
      induction j with
      | zero => rfl
      | succ j ih => rw [els, ih, if_pos rfl]
    exact this _ _
  rw [hel0] at cS3
  generalize els l (sp (N : Nat) (pbs l)) l.length = el at cS1 cS2
  generalize sp (N : Nat) (pbs l) = M at *
  repeat (refine Run.go rfl ?_)
  refine Run.cs rfl cS1 rfl (aa_rf _ _ _) ?_
  refine Run.freeze 333 rfl rfl (aa_frz _ _ _) ?_
  repeat (refine Run.go rfl ?_)
  refine Run.cs rfl cS2 rfl (aa_rf _ _ _) ?_
  refine Run.freeze 339 rfl rfl (aa_frz _ _ _) ?_
  repeat (refine Run.go rfl ?_)
  refine Run.cs rfl cBM rfl (bi_rf _) ?_
  refine Run.freeze 345 rfl rfl (bi_frz _) ?_
  repeat (refine Run.go rfl ?_)
  refine Run.cs rfl cFR (by show [i64 (IntKind.i64.wrap _), _] = _; rw [hw]; rfl) (rr_rf _ _) ?_
  refine Run.freeze 353 rfl rfl (rr_frz _ _) ?_
  repeat (refine Run.go rfl ?_)
  refine Run.cs rfl cS3 rfl (aa_rf _ _ _) ?_
  refine Run.freeze 358 rfl rfl (aa_frz _ _ _) ?_
  repeat (refine Run.go rfl ?_)
  refine Run.cs rfl cSM rfl rfl ?_
  repeat (refine Run.go rfl ?_)
  refine Run.bool 380 rfl (fun h => by simp at h) (fun _ => ?_)
  repeat (refine Run.go rfl ?_)
  refine Run.cs rfl cSB rfl rfl ?_
  repeat (refine Run.go rfl ?_)
  refine Run.cs rfl cVM rfl rfl ?_
  repeat (refine Run.go rfl ?_)
  refine Run.cs rfl cSM rfl rfl ?_
  repeat (refine Run.go rfl ?_)
  refine Run.cs rfl cSM rfl rfl ?_
  repeat (refine Run.go rfl ?_)
  refine Run.cond rfl (fun h => by simp at h) (fun _ => ?_)
  repeat (refine Run.go rfl ?_)
  refine Run.le (st' := ⟨[(419, .ro 1 ex' (C'.map u8)), (5, .rp (rkR false ⟨(N : Nat), l⟩).cells 0), (423, i64 ((N : Nat) + 1 : Int))], []⟩) (St.Le.mk' ⟨rfl, rfl, ?_, trivial⟩ trivial) ?_
  · show i64 (IntKind.i64.wrap (IntKind.i64.wrap _ + 1)) = _
    rw [hw, wrap_i64 (by omega) (by omega)]
  clear cS1 cS2 cS3 cBM cVM cFR cSM
  obtain ⟨t, ht0, cPk⟩ := P6Pick_ct ex' C' hC' hb' ((N : Nat) + 1 : Int) (by omega)
  have cT1 := implSplitRack_ct (N : Nat) t l false hV hBr
  have cT2 := specSplitRack_ct (N : Nat) t l false hV hBr
  obtain ⟨A, B, c2, eS, hsp⟩ := spl_any t hV
  rw [eS] at cT1 cT2
  have hrkAB : (A.bs.length ≤ 1048576 ∧ ∀ x ∈ A.bs, plRng x) ∧ (B.bs.length ≤ 1048576 ∧ ∀ x ∈ B.bs, plRng x) ∧
      (c2 = 0 → VR A.pl A.bs ∧ VR B.pl B.bs ∧ (∀ x ∈ A.bs, bkRng x.b) ∧ (∀ x ∈ B.bs, bkRng x.b) ∧ A.pl + B.pl = (N : Nat) ∧ A.bs ++ B.bs.map (mvP A.pl) = l ∧ pbs A.bs ++ pbs B.bs = pbs l) := by
    rcases hsp with ⟨_, h2, rfl, rfl⟩ | ⟨h1, _, rfl, rfl⟩
    · have hk := spl_ok hV h2.1 h2.2
      have rA : ∀ x ∈ spL l t, bkRng x.b := fun x hx => hBr x (List.mem_filter.1 hx).1
      have rB : ∀ x ∈ spR l t, bkRng x.b := fun x hx => by
        obtain ⟨y, hy, rfl⟩ := List.mem_map.1 hx
        exact hBr y (List.mem_filter.1 hy).1
      refine ⟨hk.a.rk rA, hk.c.rk rB, fun _ => ⟨hk.a, hk.c, rA, rB, by show t + ((N : Nat) - t) = _; omega, hk.app, ?_⟩⟩
      have := congrArg pbs hk.app
      rw [show pbs (spL l t ++ (spR l t).map (mvP t)) = pbs (spL l t) ++ pbs (spR l t) by simp [pbs, mvP, Function.comp_def]] at this
      exact this
    · exact ⟨⟨by simp [rk0], fun x hx => by simp [rk0] at hx⟩, ⟨by simp [rk0], fun x hx => by simp [rk0] at hx⟩, fun h => by omega⟩
  obtain ⟨hAr, hBr2, hAB⟩ := hrkAB
  have cSA := specSameRack_ct A false false hAr.1 hAr.2
  have cSBB := specSameRack_ct B false false hBr2.1 hBr2.2
  refine Run.cs rfl cPk rfl rfl ?_
  repeat (refine Run.go rfl ?_)
  refine Run.cs rfl cT1 rfl (s2_rf _ _ _) ?_
  refine Run.freeze 428 rfl rfl (s2_frz _ _ _) ?_
  repeat (refine Run.go rfl ?_)
  refine Run.cs rfl cT2 rfl (s2_rf _ _ _) ?_
  refine Run.freeze 435 rfl rfl (s2_frz _ _ _) ?_
  repeat (refine Run.go rfl ?_)
  refine Run.bool 442 rfl (fun h => by simp at h) (fun _ => ?_)
  repeat (refine Run.go rfl ?_)
  refine Run.cs rfl cSA rfl rfl ?_
  repeat (refine Run.go rfl ?_)
  refine Run.cs rfl cSBB rfl rfl ?_
  repeat (refine Run.go rfl ?_)
  refine Run.cond rfl (fun h => by simp at h) (fun _ => ?_)
  repeat (refine Run.go rfl ?_)
  refine Run.cond rfl (fun h => ?_) (fun h => ?_)
  · have hc2 : c2 ≠ 0 := by simpa using h
    rcases hsp with ⟨h1, _⟩ | ⟨rfl, h2, _⟩
    · exact absurd h1 hc2
    repeat (refine Run.go rfl ?_)
    refine Run.bool 461 rfl (fun h3 => ?_) (fun h3 => ?_)
    · repeat (refine Run.go rfl ?_)
      exact Run.ret hg rfl rfl
    · have h3 : ¬ t < 1 := of_decide_eq_false h3
      repeat (refine Run.go rfl ?_)
      refine Run.ret hg rfl ?_
      show bo (decide (t ≥ IntKind.i64.wrap ((N : Nat) : Int))) = _
      rw [hw, decide_eq_true (by omega)]
  · have hc2 : c2 = 0 := by simpa using h
    obtain ⟨j1, j2, j3, j4, j5, j6, j7⟩ := hAB hc2
    have cJ := JoinRacks_ct A.pl B.pl A.bs B.bs false false j1 j2 j3 j4 (by rw [j7]; exact hsB) (by omega)
    rw [j5, j6] at cJ
    repeat (refine Run.go rfl ?_)
    refine Run.cs rfl cJ rfl (rr_rf _ _) ?_
    refine Run.freeze 472 rfl rfl (rr_frz _ _) ?_
    repeat (refine Run.go rfl ?_)
    refine Run.cs rfl cSR rfl rfl ?_
    repeat (refine Run.go rfl ?_)
    exact Run.ret hg rfl rfl
end Go.Proofs.YtbkelajnngdimaaGreatDoor
