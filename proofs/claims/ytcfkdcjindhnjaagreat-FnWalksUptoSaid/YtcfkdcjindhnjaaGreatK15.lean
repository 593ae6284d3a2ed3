/- Contracts of the program's functions, and what follows from them. -/
import Derived.Test.YtcfkdcjindhnjaaGreatK14
import Derived.Test.YtcfkdcjindhnjaaGreatE45
set_option linter.unusedVariables false
set_option maxRecDepth 100000
set_option linter.unusedSimpArgs false
namespace Go.Proofs.YtcfkdcjindhnjaaGreat
open Go Go.Av

/-! Books drawn one behind another; a drawn rack: where its books stand, with no program in sight. -/

noncomputable def X58 : Fx := ⟨Tryz.prog, tys, 58, Tryz.f58, [0, 1]⟩
theorem X58_ok : X58.Ok := ⟨Tryz.func58, tys_ok⟩
theorem one_ct (ex : Bool) (C : List Int) (hC : C.length ≤ 1048576) (hb : ∀ x ∈ C, 0 ≤ x ∧ x ≤ 255) (n s m : Int) (hn : 0 ≤ n ∧ n ≤ 999999999) (hm : 0 < m ∧ m ≤ 1000000) :
    ∃ r n' s', (n ≤ n' ∧ n' ≤ n + 2) ∧ CtG Tryz.prog 58 [.bp lid 0, i64 m] (.box (srcL ex C n s)) (bo r) (.box (srcL ex C n' s')) := by
  obtain ⟨r, n', s', h1, h2, c1⟩ := pick_ct ex C hC hb n s m hn hm
  refine ⟨r == 0, n', s', h2, ?_⟩
  refine CtG.intro X58 X58_ok rfl (by kernel_rfl) rfl rfl rfl rfl rfl fun g v0 hg => ?_
  repeat (refine Run.go rfl ?_)
  refine Run.callG lid rfl rfl rfl rfl rfl rfl rfl rfl c1 rfl rfl ?_
  repeat (refine Run.go rfl ?_)
  exact Run.retG hg rfl rfl rfl rfl rfl rfl

theorem books_all (ex : Bool) (C : List Int) (hC : C.length ≤ 1048576) (hb : ∀ x ∈ C, 0 ≤ x ∧ x ≤ 255) : ∀ (m : Nat) (n s : Int), 0 ≤ n → n + 14 * m ≤ 999999000 → ∃ (l : List Bk) (N S : Nat → Int), l.length = m ∧ (∀ x ∈ l, bOk x) ∧ N 0 = n ∧ S 0 = s ∧
      (n ≤ N m ∧ N m ≤ n + 14 * (m : Nat)) ∧ ∀ j (hj : j < l.length), CtG Tryz.prog 57 [.bp lid 0] (.box (srcL ex C (N j) (S j))) (bkA l[j]) (.box (srcL ex C (N (j + 1)) (S (j + 1)))) := by
  intro m
  induction m with
  | zero => intro n s h0 h1; exact ⟨[], fun _ => n, fun _ => s, rfl, by simp, rfl, rfl, by simp, by intro j hj; simp at hj⟩
  | succ m ih =>
    intro n s h0 h1
    obtain ⟨p1, p2, p3, p4, p5, p6, p7, n', s', h1', h2, h3, h4, h5, h6, h7, hn', c⟩ := l01One_ct ex C hC hb n s (by omega)
    obtain ⟨q1, q2⟩ := drB_facts (p3 := p3) h1' h2 h4 h5 h6 h7
    generalize drB p1 p2 p3 p4 p5 p6 p7 = a at c q1 q2
    obtain ⟨l, N, S, hl, hal, hN, hS, hNm, hc⟩ := ih n' s' (by omega) (by omega)
    refine ⟨a :: l, fun j => match j with | 0 => n | j + 1 => N j, fun j => match j with | 0 => s | j + 1 => S j, by simp [hl], ?_, rfl, rfl, ?_, ?_⟩
    · intro b hb'
      rcases List.mem_cons.1 hb' with rfl | hb'
      · exact ⟨q2, q1⟩
      · exact hal b hb'
    · show n ≤ N m ∧ N m ≤ n + 14 * ((m + 1 : Nat) : Int)
      omega
    · intro j hj
      cases j with
      | zero => show CtG _ _ _ (.box (srcL ex C n s)) (bkA a) (.box (srcL ex C (N 0) (S 0))); rw [hN, hS]; exact c
      | succ j => exact hc j (by simpa using hj)

end Go.Proofs.YtcfkdcjindhnjaaGreat
