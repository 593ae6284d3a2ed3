/- Contracts of the program's functions, and what follows from them. -/
import Derived.Test.YtcfkdcjindhnjaaGreatE44
set_option linter.unusedVariables false
set_option maxRecDepth 100000
set_option linter.unusedSimpArgs false
namespace Go.Proofs.YtcfkdcjindhnjaaGreat
open Go Go.Av

/-! What is drawn out of bytes: a book, a number. -/

/-- A drawn book. -/
def drB (p1 p2 p3 p4 p5 p6 p7 : Int) : Bk :=
  ⟨100 * p1, if p3 = 0 then 97 + p4 else 97, if p3 = 1 then 97 + p4 else 97, if p3 = 2 then 97 + p4 else 97, 1 + p2, 10 + 5 * p5, 180 + 10 * p6, 100 * (1 + p7)⟩

theorem wi16 {n : Int} (h1 : -32768 ≤ n) (h2 : n ≤ 32767) : IntKind.i16.wrap n = n := wrap_i16 h1 h2
theorem wu8d {n : Int} (h1 : 0 ≤ n) (h2 : n ≤ 255) : IntKind.u8.wrap n = n := by
  simp [IntKind.wrap, IntKind.bits, IntKind.signed]; omega

/-- The marks behind j rounds. -/
def m97 : Nat → AV × AV × AV
  | 0 => (u8 0, u8 0, u8 0)
  | 1 => (u8 97, u8 0, u8 0)
  | 2 => (u8 97, u8 97, u8 0)
  | _ => (u8 97, u8 97, u8 97)

noncomputable def X57 : Fx := ⟨Tryz.prog, tys, 57, Tryz.f57, [0]⟩
theorem X57_ok : X57.Ok := ⟨Tryz.func57, tys_ok⟩
set_option maxHeartbeats 4000000 in
theorem l01One_ct (ex : Bool) (C : List Int) (hC : C.length ≤ 1048576) (hb : ∀ x ∈ C, 0 ≤ x ∧ x ≤ 255) (n s : Int) (hn : 0 ≤ n ∧ n ≤ 999999000) :
    ∃ p1 p2 p3 p4 p5 p6 p7 n' s', (0 ≤ p1 ∧ p1 < 8) ∧ (0 ≤ p2 ∧ p2 < 3) ∧ (0 ≤ p3 ∧ p3 < 3) ∧ (0 ≤ p4 ∧ p4 < 3) ∧ (0 ≤ p5 ∧ p5 < 9) ∧ (0 ≤ p6 ∧ p6 < 12) ∧ (0 ≤ p7 ∧ p7 < 20) ∧ (n ≤ n' ∧ n' ≤ n + 14) ∧
      CtG Tryz.prog 57 [.bp lid 0] (.box (srcL ex C n s)) (bkA (drB p1 p2 p3 p4 p5 p6 p7)) (.box (srcL ex C n' s')) := by
  obtain ⟨p1, n1, s1, hp1, hn1, c1⟩ := pick_ct ex C hC hb n s 8 (by omega) (by omega)
  obtain ⟨p2, n2, s2, hp2, hn2, c2⟩ := pick_ct ex C hC hb n1 s1 3 (by omega) (by omega)
  obtain ⟨p3, n3, s3, hp3, hn3, c3⟩ := pick_ct ex C hC hb n2 s2 3 (by omega) (by omega)
  obtain ⟨p4, n4, s4, hp4, hn4, c4⟩ := pick_ct ex C hC hb n3 s3 3 (by omega) (by omega)
  obtain ⟨p5, n5, s5, hp5, hn5, c5⟩ := pick_ct ex C hC hb n4 s4 9 (by omega) (by omega)
  obtain ⟨p6, n6, s6, hp6, hn6, c6⟩ := pick_ct ex C hC hb n5 s5 12 (by omega) (by omega)
  obtain ⟨p7, n7, s7, hp7, hn7, c7⟩ := pick_ct ex C hC hb n6 s6 20 (by omega) (by omega)
  refine ⟨p1, p2, p3, p4, p5, p6, p7, n7, s7, hp1, hp2, hp3, hp4, hp5, hp6, hp7, by omega, ?_⟩
  have e1 : IntKind.i16.wrap (IntKind.i64.wrap (p1 * 100)) = 100 * p1 := by rw [wrap_i64 (by omega) (by omega), wi16 (by omega) (by omega)]; omega
  have e2 : IntKind.i16.wrap (IntKind.i64.wrap (1 + p2)) = 1 + p2 := by rw [wrap_i64 (by omega) (by omega), wi16 (by omega) (by omega)]
  have e4 : IntKind.u8.wrap (IntKind.i64.wrap (97 + p4)) = 97 + p4 := by rw [wrap_i64 (by omega) (by omega), wu8d (by omega) (by omega)]
  have e5 : IntKind.i16.wrap (IntKind.i64.wrap (10 + IntKind.i64.wrap (5 * p5))) = 10 + 5 * p5 := by rw [wrap_i64 (n := 5 * p5) (by omega) (by omega), wrap_i64 (by omega) (by omega), wi16 (by omega) (by omega)]
  have e6 : IntKind.i16.wrap (IntKind.i64.wrap (180 + IntKind.i64.wrap (10 * p6))) = 180 + 10 * p6 := by rw [wrap_i64 (n := 10 * p6) (by omega) (by omega), wrap_i64 (by omega) (by omega), wi16 (by omega) (by omega)]
  have e7 : IntKind.i16.wrap (IntKind.i64.wrap (100 * IntKind.i64.wrap (1 + p7))) = 100 * (1 + p7) := by rw [wrap_i64 (n := 1 + p7) (by omega) (by omega), wrap_i64 (by omega) (by omega), wi16 (by omega) (by omega)]
  refine CtG.intro X57 X57_ok rfl (by kernel_rfl) rfl rfl rfl rfl rfl fun g v0 hg => ?_
  repeat (refine Run.go rfl ?_)
  refine Run.callG lid rfl rfl rfl rfl rfl rfl rfl rfl c1 rfl rfl ?_
  repeat (refine Run.go rfl ?_)
  refine Run.callG lid rfl rfl rfl rfl rfl rfl rfl rfl c2 rfl rfl ?_
  repeat (refine Run.go rfl ?_)
  refine Run.val rfl rfl rfl (ValOk.build (cs := [i16 (IntKind.i16.wrap (IntKind.i64.wrap (p1 * 100))), u8 0, u8 0, u8 0, i16 (IntKind.i16.wrap (IntKind.i64.wrap (1 + p2))), i16 0, i16 0, i16 0]) rfl rfl rfl rfl rfl) rfl ?_
  repeat (refine Run.go rfl ?_)
  rw [e1, e2]
  refine Run.loop (fun j : Nat => ⟨[(0, .bp lid 0), (2, .bp (2, 0) 0), (3, .bp (3, 0) 0), (4, i64 j)], [(lid, .box (srcL ex C n2 s2)), (lidT, .tie v0 lid), ((2, 0), .box [i16 0, u8 0, u8 0, u8 0, i16 0, i16 0, i16 0, i16 0]),
    ((3, 0), .box [i16 (100 * p1), (m97 j).1, (m97 j).2.1, (m97 j).2.2, i16 (1 + p2), i16 0, i16 0, i16 0])]⟩) (fun j => j ≤ 3) (fun j => 3 - j) 0 (by omega) ?_ ?_
  · exact St.Le.mk' ⟨rfl, rfl, rfl, rfl, trivial⟩ ⟨rfl, rfl, rfl, rfl, trivial⟩
  intro j hj IH
  have hj4 : j = 0 ∨ j = 1 ∨ j = 2 ∨ j = 3 := by omega
  rcases hj4 with rfl | rfl | rfl | rfl
  · repeat (refine Run.go rfl ?_)
    refine Run.cond rfl (fun h => ?_) (fun h => by simp at h)
    repeat (refine Run.go rfl ?_)
    exact Run.of (IH 1 (by omega) (by omega)) ⟨rfl, rfl, rfl, rfl, trivial⟩ ⟨rfl, rfl, rfl, rfl, trivial⟩
  · repeat (refine Run.go rfl ?_)
    refine Run.cond rfl (fun h => ?_) (fun h => by simp at h)
    repeat (refine Run.go rfl ?_)
    exact Run.of (IH 2 (by omega) (by omega)) ⟨rfl, rfl, rfl, rfl, trivial⟩ ⟨rfl, rfl, rfl, rfl, trivial⟩
  · repeat (refine Run.go rfl ?_)
    refine Run.cond rfl (fun h => ?_) (fun h => by simp at h)
    repeat (refine Run.go rfl ?_)
    exact Run.of (IH 3 (by omega) (by omega)) ⟨rfl, rfl, rfl, rfl, trivial⟩ ⟨rfl, rfl, rfl, rfl, trivial⟩
  · repeat (refine Run.go rfl ?_)
    refine Run.cond rfl (fun h => by simp at h) (fun h => ?_)
    repeat (refine Run.go rfl ?_)
    refine Run.regTo ⟨[(0, .bp lid 0), (2, .bp (2, 0) 0), (3, .bp (3, 0) 0)], [(lid, .box (srcL ex C n4 s4)), (lidT, .tie v0 lid), ((2, 0), .box [i16 0, u8 0, u8 0, u8 0, i16 0, i16 0, i16 0, i16 0]),
      ((3, 0), .box [i16 (100 * p1), u8 (if p3 = 0 then 97 + p4 else 97), u8 (if p3 = 1 then 97 + p4 else 97), u8 (if p3 = 2 then 97 + p4 else 97), i16 (1 + p2), i16 0, i16 0, i16 0])]⟩ (fun k' hk' => ?_) ?_
    · refine Run.callG lid rfl rfl rfl rfl rfl rfl rfl rfl c3 rfl rfl ?_
      repeat (refine Run.go rfl ?_)
      refine Run.callG lid rfl rfl rfl rfl rfl rfl rfl rfl c4 rfl rfl ?_
      have h3 : p3 = 0 ∨ p3 = 1 ∨ p3 = 2 := by omega
      rcases h3 with rfl | rfl | rfl
      all_goals
        repeat (refine Run.go rfl ?_)
        rw [e4]
        exact Run.of hk' ⟨rfl, rfl, rfl, trivial⟩ ⟨rfl, rfl, rfl, rfl, trivial⟩
    repeat (refine Run.go rfl ?_)
    refine Run.callG lid rfl rfl rfl rfl rfl rfl rfl rfl c5 rfl rfl ?_
    repeat (refine Run.go rfl ?_)
    refine Run.callG lid rfl rfl rfl rfl rfl rfl rfl rfl c6 rfl rfl ?_
    repeat (refine Run.go rfl ?_)
    refine Run.callG lid rfl rfl rfl rfl rfl rfl rfl rfl c7 rfl rfl ?_
    repeat (refine Run.go rfl ?_)
    refine Run.retG hg rfl ?_ rfl rfl rfl rfl
    refine Eq.trans (b := AV.agg [_, _, _, _, _, _, _, _]) rfl ?_
    rw [e5, e6, e7]
    rfl

theorem drB_facts {p1 p2 p3 p4 p5 p6 p7 : Int} (h1 : 0 ≤ p1 ∧ p1 < 8) (h2 : 0 ≤ p2 ∧ p2 < 3) (h4 : 0 ≤ p4 ∧ p4 < 3) (h5 : 0 ≤ p5 ∧ p5 < 9) (h6 : 0 ≤ p6 ∧ p6 < 12) (h7 : 0 ≤ p7 ∧ p7 < 20) :
    vB (drB p1 p2 p3 p4 p5 p6 p7) = true ∧ bkRng (drB p1 p2 p3 p4 p5 p6 p7) := by
  have hi : ∀ c : Prop, [Decidable c] → 97 ≤ (if c then 97 + p4 else 97) ∧ (if c then 97 + p4 else 97) ≤ 99 := by
    intro c _
    split <;> omega
  have key : ∀ a b c : Int, (97 ≤ a ∧ a ≤ 99) → (97 ≤ b ∧ b ≤ 99) → (97 ≤ c ∧ c ≤ 99) →
      vB ⟨100 * p1, a, b, c, 1 + p2, 10 + 5 * p5, 180 + 10 * p6, 100 * (1 + p7)⟩ = true ∧ bkRng ⟨100 * p1, a, b, c, 1 + p2, 10 + 5 * p5, 180 + 10 * p6, 100 * (1 + p7)⟩ := by
    intro a b c ha hb hc
    refine ⟨?_, ?_⟩
    · simp only [vB, Bool.and_eq_true, inr, sm, decide_eq_true_eq]
      omega
    · simp only [bkRng, i16r, u8r]
      omega
  exact key _ _ _ (hi _) (hi _) (hi _)

noncomputable def X6 : Fx := ⟨Tryz.prog, tys, 6, Tryz.f6, [0, 1]⟩
theorem X6_ok : X6.Ok := ⟨Tryz.func6, tys_ok⟩
theorem P6Pick_ct (ex : Bool) (C : List Int) (hC : C.length ≤ 1048576) (hb : ∀ x ∈ C, 0 ≤ x ∧ x ≤ 255) (m : Int) (hm : 0 < m ∧ m ≤ 1000000) :
    ∃ r, (0 ≤ r ∧ r < m) ∧ Ct Tryz.prog 6 [.ro 1 ex (C.map u8), i64 m] (i64 r) [] := by
  obtain ⟨r, n', s', h1, h2, c1⟩ := pick_ct ex C hC hb 0 0 m (by omega) hm
  refine ⟨r, h1, ?_⟩
  refine Ct.intro X6 X6_ok rfl (by kernel_rfl) rfl rfl fun g hg => ?_
  repeat (refine Run.go rfl ?_)
  refine Run.callN rfl rfl rfl rfl rfl rfl rfl from_calls rfl rfl ?_
  repeat (refine Run.go rfl ?_)
  refine Run.callG (6, 0) rfl rfl rfl rfl rfl rfl rfl rfl c1 rfl rfl ?_
  repeat (refine Run.go rfl ?_)
  exact Run.ret hg rfl rfl

noncomputable def X4 : Fx := ⟨Tryz.prog, tys, 4, Tryz.f4, [0]⟩
theorem X4_ok : X4.Ok := ⟨Tryz.func4, tys_ok⟩
theorem f6big_ct (ex : Bool) (ys : List AV) : Ct Tryz.prog 4 [.ro 1 ex ys] (bo (decide (4096 < ys.length))) [] := by
  refine Ct.intro X4 X4_ok rfl (by kernel_rfl) rfl rfl fun g hg => ?_
  repeat (refine Run.go rfl ?_)
  refine Run.ret hg rfl ?_
  show bo (decide ((ys.length : Int) > 4096)) = _
  congr 1
  exact decide_eq_decide.2 (by omega)
end Go.Proofs.YtcfkdcjindhnjaaGreat
