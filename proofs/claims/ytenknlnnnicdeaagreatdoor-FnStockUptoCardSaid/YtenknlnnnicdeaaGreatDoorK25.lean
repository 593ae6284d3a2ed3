/- Contracts of the program's functions, and what follows from them. -/
import Derived.Test.YtenknlnnnicdeaaGreatDoorK20
import Derived.Test.YtenknlnnnicdeaaGreatDoorK24
set_option linter.unusedVariables false
set_option maxRecDepth 100000
set_option linter.unusedSimpArgs false
namespace Go.Proofs.YtenknlnnnicdeaaGreatDoor
open Go Go.Av

/-! What the law of stocks draws, and the functions that it alone calls. -/

noncomputable def X6 : Fx := ⟨Tryz.prog, tys, 6, Tryz.f6, [0]⟩
theorem X6_ok : X6.Ok := ⟨Tryz.func6, tys_ok⟩
theorem P6List_ct (ex : Bool) (C : List Int) (hC : C.length ≤ 1048576) (hb : ∀ x ∈ C, 0 ≤ x ∧ x ≤ 255) :
    ∃ L : List Bk, L.length ≤ 11 ∧ (∀ x ∈ L, bOk x) ∧ Ct Tryz.prog 6 [.ro 1 ex (C.map u8)] (.own 8 false (L.map bkA)) [] := by
  obtain ⟨L, n', s', hL, hLb, hn, c1⟩ := l01Drawn_ct ex C hC hb 0 0 (by omega)
  refine ⟨L, hL, hLb, ?_⟩
  refine Ct.intro X6 X6_ok rfl (by kernel_rfl) rfl rfl fun g hg => ?_
  repeat (refine Run.go rfl ?_)
  refine Run.callN rfl rfl rfl rfl rfl rfl rfl from_calls rfl rfl ?_
  refine Run.callG (4, 0) rfl rfl rfl rfl rfl rfl rfl rfl c1 rfl rfl ?_
  repeat (refine Run.go rfl ?_)
  first | exact Run.ret hg rfl rfl | (refine Run.pack 2 rfl rfl (by simp) ?_; exact Run.ret hg rfl rfl)

noncomputable def X5 : Fx := ⟨Tryz.prog, tys, 5, Tryz.f5, [0]⟩
theorem X5_ok : X5.Ok := ⟨Tryz.func5, tys_ok⟩
theorem P6Sorted_ct (L : List Bk) (e : Bool) (hr : ∀ x ∈ L, bkRng x) (hl : L.length ≤ 1000) : Ct Tryz.prog 5 [.ro 8 e (L.map bkA)] (.own 8 false ((srtL L).map bkA)) [] := by
  refine Ct.intro X5 X5_ok rfl (by kernel_rfl) rfl rfl fun g hg => ?_
  repeat (refine Run.go rfl ?_)
  refine Run.buildSlice usl rfl rfl rfl rfl rfl rfl rfl rfl rfl rfl rfl rfl rfl rfl ?_
  repeat (refine Run.go rfl ?_)
  refine Run.cs rfl (l01Sorted_ct L true e hr hl) rfl (rfB _) ?_
  repeat (refine Run.go rfl ?_)
  first | exact Run.ret hg rfl rfl | (refine Run.pack 2 rfl rfl (by simp) ?_; exact Run.ret hg rfl rfl)

noncomputable def X16 : Fx := ⟨Tryz.prog, tys, 16, Tryz.f16, [0]⟩
theorem X16_ok : X16.Ok := ⟨Tryz.func16, tys_ok⟩
theorem implIsSorted_ct (l : List Bk) (ex : Bool) (hl : l.length ≤ 1048576) (hv : vBs l = true) : Ct Tryz.prog 16 [.ro 8 ex (l.map bkA)] (.tup [bo (srt l), i64 0]) [] := by
  have cV := validBooks_ct l ex hl
  rw [hv] at cV
  refine Ct.intro X16 X16_ok rfl (by kernel_rfl) rfl rfl fun g hg => ?_
  repeat (refine Run.go rfl ?_)
  refine Run.cs rfl cV rfl rfl ?_
  repeat (refine Run.go rfl ?_)
  refine Run.cond rfl (fun h => by simp at h) (fun _ => ?_)
  repeat (refine Run.go rfl ?_)
  refine Run.cs rfl (isSorted_ct l ex hl) rfl rfl ?_
  repeat (refine Run.go rfl ?_)
  exact Run.ret hg rfl rfl

noncomputable def X22 : Fx := ⟨Tryz.prog, tys, 22, Tryz.f22, [0, 1]⟩
theorem X22_ok : X22.Ok := ⟨Tryz.func22, tys_ok⟩
theorem CountOf_ct (l : List Bk) (ex : Bool) (x : Bk) (hlen : l.length ≤ 1048576) (hr : ∀ y ∈ l, bkRng y) (hx : bkRng x) : Ct Tryz.prog 22 [.ro 8 ex (l.map bkA), bkA x] (i64 ((l.count x : Nat) : Int)) [] := by
  refine Ct.intro X22 X22_ok rfl (by kernel_rfl) rfl rfl fun g hg => ?_
  repeat (refine Run.go rfl ?_)
  refine Run.cs rfl (l07Count_ct l ex x hlen hr hx) rfl rfl ?_
  repeat (refine Run.go rfl ?_)
  exact Run.ret hg rfl rfl

noncomputable def X30 : Fx := ⟨Tryz.prog, tys, 30, Tryz.f30, [0, 1]⟩
theorem X30_ok : X30.Ok := ⟨Tryz.func30, tys_ok⟩
theorem implMoveBook_ct (b : List Bk) (e : Bool) (f t : Nat) (hf : f < b.length) (ht : t < b.length) (hb : b.length ≤ 60) (hv : vBs b = true) : Ct Tryz.prog 30 [.ro 8 e (b.map bkA), mvA f t] (.tup [.own 8 false ((mvL b f t).map bkA), i64 0]) [] := by
  have cV := validBooks_ct b e (by omega)
  rw [hv] at cV
  refine Ct.intro X30 X30_ok rfl (by kernel_rfl) rfl rfl fun g hg => ?_
  repeat (refine Run.go rfl ?_)
  refine Run.cs rfl cV rfl rfl ?_
  repeat (refine Run.go rfl ?_)
  refine Run.cond rfl (fun h => by simp at h) (fun _ => ?_)
  repeat (refine Run.go rfl ?_)
  refine Run.cs rfl (moved_ct b e f t hf ht hb) rfl (by simp only [AV.rf, AV.rfL, rfB]; rfl) ?_
  repeat (refine Run.go rfl ?_)
  refine Run.cond rfl (fun h => by simp at h) (fun _ => ?_)
  repeat (refine Run.go rfl ?_)
  first | exact Run.ret hg rfl rfl | (refine Run.pack 4 rfl rfl rfl ?_; exact Run.ret hg rfl rfl)

/-- Numbers drawn, as a function of the place and the seed. -/
theorem pick_fn (ex : Bool) (C : List Int) (hC : C.length ≤ 1048576) (hb : ∀ x ∈ C, 0 ≤ x ∧ x ≤ 255) (m : Int) (hm : 0 < m ∧ m ≤ 1000000) :
    ∃ F : Int × Int → Int × Int × Int, ∀ p : Int × Int, 0 ≤ p.1 ∧ p.1 ≤ 999999999 → (0 ≤ (F p).1 ∧ (F p).1 < m) ∧ (p.1 ≤ (F p).2.1 ∧ (F p).2.1 ≤ p.1 + 2) ∧
      CtG Tryz.prog 35 [.bp lid 0, i64 m] (.box (srcL ex C p.1 p.2)) (i64 (F p).1) (.box (srcL ex C (F p).2.1 (F p).2.2)) := by
  have h : ∀ p : Int × Int, ∃ q : Int × Int × Int, 0 ≤ p.1 ∧ p.1 ≤ 999999999 → (0 ≤ q.1 ∧ q.1 < m) ∧ (p.1 ≤ q.2.1 ∧ q.2.1 ≤ p.1 + 2) ∧
      CtG Tryz.prog 35 [.bp lid 0, i64 m] (.box (srcL ex C p.1 p.2)) (i64 q.1) (.box (srcL ex C q.2.1 q.2.2)) := by
    intro p
    by_cases hp : 0 ≤ p.1 ∧ p.1 ≤ 999999999
    · obtain ⟨r, n', s', h0, h1, c⟩ := pick_ct ex C hC hb p.1 p.2 m hp hm
      exact ⟨(r, n', s'), fun _ => ⟨h0, h1, c⟩⟩
    · exact ⟨(0, 0, 0), fun h => absurd h hp⟩
  exact ⟨fun p => Classical.choose (h p), fun p => Classical.choose_spec (h p)⟩

/-- Books moved, one after another. -/
def mvs (F : Int × Int → Int × Int × Int) : Nat → List Bk → Int × Int → List Bk × Int × Int
  | 0, L, p => (L, p)
  | k + 1, L, p => mvs F k (mvL L (F p).1.toNat (F (F p).2).1.toNat) (F (F p).2).2
theorem mvs_ok {F : Int × Int → Int × Int × Int} {n : Nat} (hF : ∀ p : Int × Int, 0 ≤ p.1 ∧ p.1 ≤ 999999999 → (0 ≤ (F p).1 ∧ (F p).1 < (n : Nat)) ∧ (p.1 ≤ (F p).2.1 ∧ (F p).2.1 ≤ p.1 + 2)) : ∀ (k : Nat) (L : List Bk) (p : Int × Int), L.length = n → 0 ≤ p.1 → p.1 + 4 * k ≤ 999999999 →
    (mvs F k L p).1.length = n ∧ (∀ x ∈ (mvs F k L p).1, x ∈ L) ∧ (p.1 ≤ (mvs F k L p).2.1 ∧ (mvs F k L p).2.1 ≤ p.1 + 4 * k)
  | 0, L, p, h, h0, h1 => ⟨h, fun x hx => hx, Int.le_refl _, by show p.1 ≤ _; omega⟩
  | k + 1, L, p, h, h0, h1 => by
    obtain ⟨f1, f2⟩ := hF p (by omega)
    obtain ⟨g1, g2⟩ := hF (F p).2 (by omega)
    obtain ⟨i1, i2, i3⟩ := mvs_ok hF k (mvL L (F p).1.toNat (F (F p).2).1.toNat) (F (F p).2).2 (by rw [mvL_len (by omega) (by omega), h]) (by omega) (by omega)
    rw [mvs]
    exact ⟨i1, fun x hx => mvL_mem (i2 x hx), by omega⟩
end Go.Proofs.YtenknlnnnicdeaaGreatDoor
