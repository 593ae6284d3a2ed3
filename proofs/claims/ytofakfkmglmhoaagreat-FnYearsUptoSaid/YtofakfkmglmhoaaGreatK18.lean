/- Contracts of the program's functions, and what follows from them. -/
import Derived.Test.YtofakfkmglmhoaaGreatK17
import Derived.Test.YtofakfkmglmhoaaGreatMC
import Derived.Test.YtofakfkmglmhoaaGreatME
import Derived.Test.YtofakfkmglmhoaaGreatMF
set_option linter.unusedVariables false
set_option maxRecDepth 100000
set_option linter.unusedSimpArgs false
namespace Go.Proofs.YtofakfkmglmhoaaGreat
open Go Go.Av

/-! Racks, lists of books and of numbers compared. -/

noncomputable def X43 : Fx := ⟨Tryz.prog, tys, 43, Tryz.f43, [0, 1]⟩
theorem X43_ok : X43.Ok := ⟨Tryz.func43, tys_ok⟩
theorem l00Same_ct (l m : List Int) (ex ex' : Bool) (hb : l.length ≤ 1048576) : Ct Tryz.prog 43 [.ro 1 ex (l.map i64), .ro 1 ex' (m.map i64)] (bo (decide (l = m))) [] := by
  refine Ct.intro X43 X43_ok rfl (by kernel_rfl) rfl rfl fun g hg => ?_
  repeat (refine Run.go rfl ?_)
  refine Run.cond rfl (fun h => ?_) (fun h => ?_)
  · repeat (refine Run.go rfl ?_)
    refine Run.ret hg rfl ?_
    show bo _ = _
    congr 2
    simp at h
    symm
    simp
    rintro rfl
    exact h rfl
  · have hlen : l.length = m.length := by simp at h; omega
    repeat (refine Run.go rfl ?_)
    refine Run.loop (fun j : Nat => ⟨[(0, .ro 1 ex (l.map i64)), (1, .ro 1 ex' (m.map i64)), (5, i64 j)], []⟩) (fun j => j ≤ l.length ∧ l.take j = m.take j) (fun j => l.length - j) 0 ⟨by omega, rfl⟩ ?_ ?_
    · exact St.Le.mk' ⟨rfl, rfl, rfl, trivial⟩ trivial
    · rintro j ⟨hj, hjm⟩ IH
      repeat (refine Run.go rfl ?_)
      refine Run.cond rfl (fun h => ?_) (fun h => ?_)
      · have hlt : j < l.length := by simpa using h
        have hlt' : j < m.length := by omega
        repeat (refine Run.go rfl ?_)
        refine Run.draw (by kernel_rfl) (by decide +kernel) ?_
        repeat (refine Quiet.go rfl ?_)
        refine Quiet.val rfl rfl (ValOk.idx (i64 l[j]) rfl rfl rfl rfl rfl (by omega) (by simp [hlt])) rfl ?_
        repeat (refine Quiet.go rfl ?_)
        refine Quiet.val rfl rfl (ValOk.idx (i64 m[j]) rfl rfl rfl rfl rfl (by omega) (by simp [hlt'])) rfl ?_
        repeat (refine Quiet.go rfl ?_)
        refine Quiet.nil ?_
        repeat (refine Run.go rfl ?_)
        refine Run.cond rfl (fun h => ?_) (fun h => ?_)
        · repeat (refine Run.go rfl ?_)
          refine Run.ret hg rfl ?_
          show bo false = bo (decide (l = m))
          rw [decide_eq_false]
          rintro rfl
          simp at h
        · repeat (refine Run.go rfl ?_)
          refine Run.of (IH (j + 1) ⟨by omega, ?_⟩ (by omega)) ⟨rfl, rfl, ?_, trivial⟩ trivial
          · rw [List.take_succ_eq_append_getElem hlt, List.take_succ_eq_append_getElem hlt', hjm]
            simp at h
            rw [h]
          · show i64 _ = _
            rw [wrap_i64 (by omega) (by omega)]
            rfl
      · have hj' : j = l.length := by simp at h; omega
        repeat (refine Run.go rfl ?_)
        refine Run.ret hg rfl ?_
        show bo _ = _
        rw [List.take_of_length_le (by omega), List.take_of_length_le (by omega)] at hjm
        simp [hjm]

noncomputable def X11 : Fx := ⟨Tryz.prog, tys, 11, Tryz.f11, [0, 1]⟩
theorem X11_ok : X11.Ok := ⟨Tryz.func11, tys_ok⟩
theorem SameNumbers_ct (l m : List Int) (ex ex' : Bool) (hb : l.length ≤ 1048576) : Ct Tryz.prog 11 [.ro 1 ex (l.map i64), .ro 1 ex' (m.map i64)] (bo (decide (l = m))) [] := by
  refine Ct.intro X11 X11_ok rfl (by kernel_rfl) rfl rfl fun g hg => ?_
  repeat (refine Run.go rfl ?_)
  refine Run.cs rfl (l00Same_ct l m ex ex' hb) rfl rfl ?_
  repeat (refine Run.go rfl ?_)
  exact Run.ret hg rfl rfl

noncomputable def X22 : Fx := ⟨Tryz.prog, tys, 22, Tryz.f22, [0, 1]⟩
theorem X22_ok : X22.Ok := ⟨Tryz.func22, tys_ok⟩
theorem HasNumber_ct (l : List Int) (ex : Bool) (n : Int) (hlen : l.length ≤ 1048576) : Ct Tryz.prog 22 [.ro 1 ex (l.map i64), i64 n] (bo (l.any fun x => x == n)) [] := by
  refine Ct.intro X22 X22_ok rfl (by kernel_rfl) rfl rfl fun g hg => ?_
  repeat (refine Run.go rfl ?_)
  refine Run.cs rfl (l00Has_ct l ex n hlen) rfl rfl ?_
  repeat (refine Run.go rfl ?_)
  exact Run.ret hg rfl rfl

noncomputable def X15 : Fx := ⟨Tryz.prog, tys, 15, Tryz.f15, [0, 1]⟩
theorem X15_ok : X15.Ok := ⟨Tryz.func15, tys_ok⟩
theorem specSameBooks_ct (a b : List Bk) (e1 e2 : Bool) (ha : a.length ≤ 1048576 ∧ ∀ x ∈ a, bkRng x) (hb : b.length ≤ 1048576 ∧ ∀ x ∈ b, bkRng x) : Ct Tryz.prog 15 [.ro 8 e1 (a.map bkA), .ro 8 e2 (b.map bkA)] (bo (decide (a = b))) [] := by
  refine Ct.intro X15 X15_ok rfl (by kernel_rfl) rfl rfl fun g hg => ?_
  repeat (refine Run.go rfl ?_)
  refine Run.cs rfl (l01Same_ct a b e1 e2 ha hb) rfl rfl ?_
  repeat (refine Run.go rfl ?_)
  exact Run.ret hg rfl rfl

def plV (x : Pl) : List Value := .int .i16 x.p :: bkV x.b
theorem pl_key (x : Pl) (hr : plRng x) : ∃ l, keyOf Tryz.prog 78 (.agg (plV x).toArray) = some l := by
  obtain ⟨rp, r0, r1, r2, r3, r4, r5, r6, r7⟩ := hr
  have ep := i16_wf rp
  have e0 := i16_wf r0
  have e1 := u8_wf r1
  have e2 := u8_wf r2
  have e3 := u8_wf r3
  have e4 := i16_wf r4
  have e5 := i16_wf r5
  have e6 := i16_wf r6
  have e7 := i16_wf r7
  have up := Tryz.underlying78
  have u0 := Tryz.underlying56
  have u1 := Tryz.underlying24
  have u2 := Tryz.underlying5
  have u3 := Tryz.underlying54
  have hk : Tryz.prog.keyType 78 = true := by kernel_rfl
  have hf : (Value.agg (plV x).toArray).formed Tryz.prog 78 = true := by kernel_rfl
  have cp : Tryz.prog.cellsOf 78 = 9 := by kernel_rfl
  have c0 : Tryz.prog.cellsOf 56 = 8 := by kernel_rfl
  have c1 : Tryz.prog.cellsOf 24 = 1 := by kernel_rfl
  have c2 : Tryz.prog.cellsOf 5 = 1 := by kernel_rfl
  have c3 : Tryz.prog.cellsOf 54 = 3 := by kernel_rfl
  obtain ⟨N, hN⟩ : ∃ N, Tryz.prog.types.size + 1 = N + 5 := ⟨Tryz.prog.types.size - 4, by kernel_rfl⟩
  refine ⟨.string (keyBytes [.int .i16 x.p, .int .i16 x.b.cl, .int .u8 x.b.a, .int .u8 x.b.b, .int .u8 x.b.c, .int .i16 x.b.vol, .int .i16 x.b.wd, .int .i16 x.b.hi, .int .i16 x.b.wt]), ?_⟩
  unfold keyOf
  rw [up]
  simp only [hk, hf, Bool.and_self, if_true, hN]
  simp [Program.keyLits, up, u0, u1, u2, u3, cp, c0, c1, c2, c3, plV, bkV, Value.cells, ep, e0, e1, e2, e3, e4, e5, e6, e7, List.range_succ]
  rw [if_pos (by decide)]
  rfl
theorem plK : KTy Tryz.prog 78 plV plRng := by
  refine KTy.of 5 5 (by decide) (by kernel_rfl) (by kernel_rfl) (by rw [Tryz.underlying78]) pl_key ?_ (by kernel_rfl)
  intro a b h
  obtain ⟨ap, ⟨a0, a1, a2, a3, a4, a5, a6, a7⟩⟩ := a
  obtain ⟨bp, ⟨b0, b1, b2, b3, b4, b5, b6, b7⟩⟩ := b
  simp [plV, bkV] at h
  obtain ⟨h0, h1, h2, h3, h4, h5, h6, h7, h8⟩ := h
  simp [h0, h1, h2, h3, h4, h5, h6, h7, h8]

noncomputable def X10 : Fx := ⟨Tryz.prog, tys, 10, Tryz.f10, [0, 1]⟩
theorem X10_ok : X10.Ok := ⟨Tryz.func10, tys_ok⟩
theorem specSameRack_ct (r : Rk) (e1 e2 : Bool) (hl : r.bs.length ≤ 1048576) (hr : ∀ x ∈ r.bs, plRng x) : Ct Tryz.prog 10 [rkR e1 r, rkR e2 r] (bo true) [] := by
  obtain ⟨n, l⟩ := r
  simp only at hl hr
  refine Ct.intro X10 X10_ok rfl (by kernel_rfl) rfl rfl fun g hg => ?_
  repeat (refine Run.go rfl ?_)
  refine Run.bool 11 rfl (fun h => by simp at h) (fun _ => ?_)
  repeat (refine Run.go rfl ?_)
  refine Run.cond rfl (fun h => by simp at h) (fun _ => ?_)
  repeat (refine Run.go rfl ?_)
  refine Run.freezeBox 2 (2, 0) (rkR e1 ⟨n, l⟩).cells rfl rfl rfl rfl ?_
  refine Run.freezeBox 3 (3, 0) (rkR e2 ⟨n, l⟩).cells rfl rfl rfl rfl ?_
  refine Run.loop (fun j : Nat => ⟨[(2, .rp (rkR e1 ⟨n, l⟩).cells 0), (3, .rp (rkR e2 ⟨n, l⟩).cells 0), (5, i64 (j : Nat))], []⟩) (fun j => j ≤ l.length) (fun j => l.length - j) 0 (by omega) ?_ ?_
  · exact St.Le.mk' ⟨rfl, rfl, rfl, trivial⟩ trivial
  intro j hj IH
  repeat (refine Run.go rfl ?_)
  refine Run.cond rfl (fun h => ?_) (fun h => ?_)
  · have hlt : j < l.length := by simpa using h
    have hat : (l.map plA)[((j : Int)).toNat]? = some (plA l[j]) := by simp [hlt]
    have hx := hr l[j] (by simp)
    repeat (refine Run.go rfl ?_)
    refine Run.draw (by kernel_rfl) (by decide +kernel) ?_
    repeat (refine Quiet.go rfl ?_)
    refine Quiet.val rfl rfl (ValOk.idx (plA l[j]) rfl rfl rfl rfl rfl (by omega) hat) rfl ?_
    repeat (refine Quiet.go rfl ?_)
    refine Quiet.val rfl rfl (ValOk.idx (plA l[j]) rfl rfl rfl rfl rfl (by omega) hat) rfl ?_
    repeat (refine Quiet.go rfl ?_)
    refine Quiet.val rfl rfl (ValOk.neK l[j] l[j] rfl plK rfl rfl hx hx) rfl ?_
    repeat (refine Quiet.go rfl ?_)
    refine Quiet.nil ?_
    repeat (refine Run.go rfl ?_)
    refine Run.cond rfl (fun h => by simp at h) (fun _ => ?_)
    repeat (refine Run.go rfl ?_)
    refine Run.of (IH (j + 1) (by omega) (by omega)) ⟨rfl, rfl, ?_, trivial⟩ trivial
    show i64 _ = _
    rw [wrap_i64 (by omega) (by omega)]
    rfl
  · repeat (refine Run.go rfl ?_)
    exact Run.ret hg rfl rfl
end Go.Proofs.YtofakfkmglmhoaaGreat
