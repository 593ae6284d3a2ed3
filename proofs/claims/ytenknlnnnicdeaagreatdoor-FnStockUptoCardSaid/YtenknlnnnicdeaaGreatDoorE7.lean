/- Contracts of the program's functions, and what follows from them. -/
import Derived.Test.YtenknlnnnicdeaaGreatDoorE6
import Derived.Test.YtenknlnnnicdeaaGreatDoorE2
set_option linter.unusedVariables false
set_option maxRecDepth 100000
set_option linter.unusedSimpArgs false
namespace Go.Proofs.YtenknlnnnicdeaaGreatDoor
open Go Go.Av

/-! The label of a book. -/

theorem dd_dig (n : Nat) : ∀ b ∈ Lib.decDigits n, 48 ≤ b.toNat ∧ b.toNat ≤ 57 := by
  induction n using Nat.strongRecOn with
  | _ n IH =>
  have one : ∀ k, k < 10 → (UInt8.ofNat (48 + k)).toNat = 48 + k := fun k hk => by
    simp only [UInt8.toNat_ofNat']; omega
  intro b hb
  rw [Lib.decDigits] at hb
  split at hb
  · rename_i h
    rw [List.mem_singleton] at hb
    rw [hb, one n h]; omega
  · rename_i h
    rcases List.mem_append.1 hb with hb | hb
    · exact IH (n / 10) (by omega) b hb
    · rw [List.mem_singleton] at hb
      rw [hb, one _ (by omega)]; omega

theorem dd_len2 {n : Nat} (h : n < 100) : (Lib.decDigits n).length ≤ 2 := by
  by_cases h1 : n < 10
  · rw [Lib.decDigits_one h1]; simp
  · rw [Lib.decDigits_two h1 h]; simp
theorem dd_len3 {n : Nat} (h : n < 1000) : (Lib.decDigits n).length ≤ 3 := by
  by_cases h1 : n < 10
  · rw [Lib.decDigits_one h1]; simp
  · rw [Lib.decDigits, dif_neg h1, List.length_append]
    have := dd_len2 (n := n / 10) (by omega)
    simp only [List.length_cons, List.length_nil]
    omega

theorem pad_len {n : Nat} {l : List UInt8} (h : l.length ≤ n) : (pad n l).length = n := by
  unfold pad
  rw [List.length_append, List.length_replicate]
  omega

/-- A text of values. -/
def svOk (t : List UInt8) : Prop := ∀ b ∈ t, 0 ≤ sv (b.toNat : Int)
theorem svOk_app {s t : List UInt8} (h1 : svOk s) (h2 : svOk t) : svOk (s ++ t) := fun b hb => (List.mem_append.1 hb).elim (h1 b) (h2 b)
theorem sv_dig {b : UInt8} (h : 48 ≤ b.toNat ∧ b.toNat ≤ 57) : 0 ≤ sv (b.toNat : Int) := by
  rw [sv, if_pos (by omega)]; omega
theorem svOk_pad (n m : Nat) : svOk (pad n (Lib.decDigits m)) := by
  refine svOk_app (fun b hb => ?_) fun b hb => sv_dig (dd_dig m b hb)
  rw [List.eq_of_mem_replicate hb]
  decide
theorem svOk_bv {t : List UInt8} (h : svOk t) (i : Nat) (hi : i < t.length) : 0 ≤ sv (bv t i) := by
  have : t.getD i 0 ∈ t := by
    rw [List.getD_eq_getElem?_getD, List.getElem?_eq_getElem hi]
    exact List.getElem_mem hi
  exact h _ this
theorem sm_toNat {n : Int} (h : sm n = true) : ((UInt8.ofNat n.toNat).toNat : Int) = n ∧ 97 ≤ n ∧ n ≤ 122 := by
  simp only [sm, Bool.and_eq_true, decide_eq_true_eq] at h
  refine ⟨?_, h⟩
  simp only [UInt8.toNat_ofNat']
  omega
theorem sv_sm {n : Int} (h : sm n = true) : 0 ≤ sv ((UInt8.ofNat n.toNat).toNat : Int) := by
  obtain ⟨e, h1, h2⟩ := sm_toNat h
  rw [e, sv, if_neg (by omega), if_pos ⟨h1, h2⟩]
  omega

/-- What a label tells of a book is in these bounds. -/
def lbOk (x : Bk) : Prop := (0 ≤ x.cl ∧ x.cl ≤ 999) ∧ (sm x.a = true ∧ sm x.b = true ∧ sm x.c = true) ∧ (0 ≤ x.vol ∧ x.vol ≤ 99)
theorem vB_lb {x : Bk} (h : vB x = true) : lbOk x := by
  simp only [vB, Bool.and_eq_true, inr, decide_eq_true_eq] at h
  obtain ⟨⟨⟨⟨⟨h1, h2, h3, h4⟩, h5⟩, _⟩, _⟩, _⟩ := h
  exact ⟨h1, ⟨h2, h3, h4⟩, by omega⟩

/-- The first eight characters, the label. -/
def lab8 (x : Bk) : List UInt8 := pad 3 (Lib.decDigits x.cl.toNat) ++ bys [x.a, x.b, x.c] ++ pad 2 (Lib.decDigits x.vol.toNat)
def labT (x : Bk) : List UInt8 := lab8 x ++ [dgt (lab8 x)]

theorem lab8_facts {x : Bk} (h : lbOk x) : (Lib.decDigits x.cl.toNat).length ≤ 3 ∧ (Lib.decDigits x.vol.toNat).length ≤ 2 ∧ (lab8 x).length = 8 ∧ ∀ i, i < 8 → 0 ≤ sv (bv (lab8 x) i) := by
  obtain ⟨h1, ⟨ha, hb, hc⟩, h2⟩ := h
  have l1 := dd_len3 (n := x.cl.toNat) (by omega)
  have l2 := dd_len2 (n := x.vol.toNat) (by omega)
  have hl : (lab8 x).length = 8 := by
    unfold lab8
    rw [List.length_append, List.length_append, pad_len l1, pad_len l2]
    rfl
  refine ⟨l1, l2, hl, fun i hi => svOk_bv ?_ i (by omega)⟩
  refine svOk_app (svOk_app (svOk_pad _ _) fun b hb' => ?_) (svOk_pad _ _)
  simp only [bys, List.map_cons, List.map_nil, List.mem_cons, List.not_mem_nil, or_false] at hb'
  rcases hb' with rfl | rfl | rfl
  · exact sv_sm ha
  · exact sv_sm hb
  · exact sv_sm hc

noncomputable def X57 : Fx := ⟨Tryz.prog, tys, 57, Tryz.f57, [0]⟩
theorem X57_ok : X57.Ok := ⟨Tryz.func57, tys_ok⟩
theorem labelOf_ct (x : Bk) (h : lbOk x) : CtA ambT Tryz.prog 57 [bkA x] (str (labT x)) [] := by
  obtain ⟨l1, l2, l8, hv⟩ := lab8_facts h
  obtain ⟨h1, _, h2⟩ := h
  have p1 := pad_len l1
  have p2 := pad_len l2
  refine CtA.intro ambT X57 X57_ok rfl (by kernel_rfl) rfl rfl fun g hA hg => ?_
  iterate 3 (refine Run.go rfl ?_)
  refine Run.freezeBox 1 (1, 0) (bkA x).cells rfl rfl rfl rfl ?_
  repeat (refine Run.go rfl ?_)
  refine Run.draw (by kernel_rfl) (by decide +kernel) ?_
  repeat (refine Quiet.go rfl ?_)
  refine Quiet.csA rfl rfl rfl rfl rfl ((padded_ct x.cl 3 h1.1 (by omega) (by omega) l1).at hA) rfl rfl ?_
  repeat (refine Quiet.go rfl ?_)
  refine Quiet.val rfl rfl (ValOk.cutArr (ys := [x.a, x.b, x.c].map u8) rfl rfl rfl rfl rfl rfl rfl rfl rfl (by decide)) rfl ?_
  refine Quiet.val rfl rfl (ValOk.b2s (ex := true) [x.a, x.b, x.c] rfl rfl rfl rfl rfl (.inr rfl)) rfl ?_
  refine Quiet.val rfl rfl (ValOk.scat (pad 3 (Lib.decDigits x.cl.toNat)) (bys [x.a, x.b, x.c]) rfl rfl rfl (by rw [p1]; show 3 + 3 ≤ _; omega)) rfl ?_
  repeat (refine Quiet.go rfl ?_)
  refine Quiet.csA rfl rfl rfl rfl rfl ((padded_ct x.vol 2 h2.1 (by omega) (by omega) l2).at hA) rfl rfl ?_
  refine Quiet.val rfl rfl (ValOk.scat (pad 3 (Lib.decDigits x.cl.toNat) ++ bys [x.a, x.b, x.c]) (pad 2 (Lib.decDigits x.vol.toNat)) rfl rfl rfl (by rw [List.length_append, p1, p2]; show 3 + 3 + 2 ≤ _; omega)) rfl ?_
  refine Quiet.cs rfl rfl rfl rfl rfl (checked_ct (lab8 x) (by omega) (by omega) hv) rfl rfl ?_
  repeat (refine Quiet.go rfl ?_)
  refine Quiet.nil ?_
  repeat (refine Run.go rfl ?_)
  exact Run.ret hg rfl rfl

noncomputable def X62 : Fx := ⟨Tryz.prog, tys, 62, Tryz.f62, [0]⟩
theorem X62_ok : X62.Ok := ⟨Tryz.func62, tys_ok⟩
theorem l07Label_ct (x : Bk) (hr : bkRng x) (h : lbOk x) : Ct Tryz.prog 62 [.rp (bkA x).cells 0] (str (labT x)) [] := by
  obtain ⟨l1, l2, l8, hv⟩ := lab8_facts h
  obtain ⟨h1, _, h2⟩ := h
  have p1 := pad_len l1
  have p2 := pad_len l2
  have e1 : IntKind.i64.wrap x.cl = ((x.cl.toNat : Nat) : Int) := by rw [wrap_i64 (by omega) (by omega)]; omega
  have e2 : IntKind.i64.wrap x.vol = ((x.vol.toNat : Nat) : Int) := by rw [wrap_i64 (by omega) (by omega)]; omega
  refine Ct.intro X62 X62_ok rfl (by kernel_rfl) rfl rfl fun g hg => ?_
  repeat (refine Run.go rfl ?_)
  refine Run.draw (by kernel_rfl) (by decide +kernel) ?_
  repeat (refine Quiet.go rfl ?_)
  rw [e1]
  refine Quiet.cs rfl rfl rfl rfl rfl (l07Digits_ct x.cl.toNat 3 (by omega) (by omega) l1) rfl rfl ?_
  repeat (refine Quiet.go rfl ?_)
  refine Quiet.val rfl rfl (ValOk.cutArr (ys := [x.a, x.b, x.c].map u8) rfl rfl rfl rfl rfl rfl rfl rfl rfl (by decide)) rfl ?_
  refine Quiet.val rfl rfl (ValOk.b2s (ex := true) [x.a, x.b, x.c] rfl rfl rfl rfl rfl (.inr rfl)) rfl ?_
  refine Quiet.val rfl rfl (ValOk.scat (pad 3 (Lib.decDigits x.cl.toNat)) (bys [x.a, x.b, x.c]) rfl rfl rfl (by rw [p1]; show 3 + 3 ≤ _; omega)) rfl ?_
  repeat (refine Quiet.go rfl ?_)
  rw [e2]
  refine Quiet.cs rfl rfl rfl rfl rfl (l07Digits_ct x.vol.toNat 2 (by omega) (by omega) l2) rfl rfl ?_
  refine Quiet.val rfl rfl (ValOk.scat (pad 3 (Lib.decDigits x.cl.toNat) ++ bys [x.a, x.b, x.c]) (pad 2 (Lib.decDigits x.vol.toNat)) rfl rfl rfl (by rw [List.length_append, p1, p2]; show 3 + 3 + 2 ≤ _; omega)) rfl ?_
  repeat (refine Quiet.go rfl ?_)
  refine Quiet.nil ?_
  repeat (refine Run.go rfl ?_)
  refine Run.cs rfl (l07Check_ct (lab8 x) (by omega) hv) rfl rfl ?_
  refine Run.buildSlice [u8 ((48 + (psum (lab8 x) 8).toNat % 10 : Nat) : Int)] rfl rfl rfl rfl rfl rfl rfl rfl rfl rfl rfl rfl rfl rfl ?_
  refine Run.val rfl rfl rfl (ValOk.b2s (ex := true) [((48 + (psum (lab8 x) 8).toNat % 10 : Nat) : Int)] rfl rfl rfl rfl rfl (.inl rfl)) rfl ?_
  refine Run.val rfl rfl rfl (ValOk.scat (lab8 x) (bys [((48 + (psum (lab8 x) 8).toNat % 10 : Nat) : Int)]) rfl rfl rfl (by rw [l8]; show 8 + 1 ≤ _; omega)) rfl ?_
  repeat (refine Run.go rfl ?_)
  exact Run.ret hg rfl rfl

end Go.Proofs.YtenknlnnnicdeaaGreatDoor
