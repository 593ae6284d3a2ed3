/- Contracts of the program's functions, and what follows from them. -/
import Derived.Test.YtofakfkmglmhoaaGreatK14
import Derived.Test.YtofakfkmglmhoaaGreatE45
set_option linter.unusedVariables false
set_option maxRecDepth 100000
set_option linter.unusedSimpArgs false
namespace Go.Proofs.YtofakfkmglmhoaaGreat
open Go Go.Av

/-! Books drawn one behind another; a drawn rack: where its books stand, with no program in sight. -/

noncomputable def X60 : Fx := ⟨Tryz.prog, tys, 60, Tryz.f60, [0, 1]⟩
theorem X60_ok : X60.Ok := ⟨Tryz.func60, tys_ok⟩
theorem one_ct (ex : Bool) (C : List Int) (hC : C.length ≤ 1048576) (hb : ∀ x ∈ C, 0 ≤ x ∧ x ≤ 255) (n s m : Int) (hn : 0 ≤ n ∧ n ≤ 999999999) (hm : 0 < m ∧ m ≤ 1000000) :
    ∃ r n' s', (n ≤ n' ∧ n' ≤ n + 2) ∧ CtG Tryz.prog 60 [.bp lid 0, i64 m] (.box (srcL ex C n s)) (bo r) (.box (srcL ex C n' s')) := by
  obtain ⟨r, n', s', h1, h2, c1⟩ := pick_ct ex C hC hb n s m hn hm
  refine ⟨r == 0, n', s', h2, ?_⟩
  refine CtG.intro X60 X60_ok rfl (by kernel_rfl) rfl rfl rfl rfl rfl fun g v0 hg => ?_
  repeat (refine Run.go rfl ?_)
  refine Run.callG lid rfl rfl rfl rfl rfl rfl rfl rfl c1 rfl rfl ?_
  repeat (refine Run.go rfl ?_)
  exact Run.retG hg rfl rfl rfl rfl rfl rfl

/-- The answers, as a function of the place and the seed. -/
theorem one_fn (ex : Bool) (C : List Int) (hC : C.length ≤ 1048576) (hb : ∀ x ∈ C, 0 ≤ x ∧ x ≤ 255) (m : Int) (hm : 0 < m ∧ m ≤ 1000000) :
    ∃ F : Int × Int → Bool × Int × Int, ∀ p : Int × Int, 0 ≤ p.1 ∧ p.1 ≤ 999999999 → (p.1 ≤ (F p).2.1 ∧ (F p).2.1 ≤ p.1 + 2) ∧
      CtG Tryz.prog 60 [.bp lid 0, i64 m] (.box (srcL ex C p.1 p.2)) (bo (F p).1) (.box (srcL ex C (F p).2.1 (F p).2.2)) := by
  have h : ∀ p : Int × Int, ∃ q : Bool × Int × Int, 0 ≤ p.1 ∧ p.1 ≤ 999999999 → (p.1 ≤ q.2.1 ∧ q.2.1 ≤ p.1 + 2) ∧
      CtG Tryz.prog 60 [.bp lid 0, i64 m] (.box (srcL ex C p.1 p.2)) (bo q.1) (.box (srcL ex C q.2.1 q.2.2)) := by
    intro p
    by_cases hp : 0 ≤ p.1 ∧ p.1 ≤ 999999999
    · obtain ⟨r, n', s', h1, c⟩ := one_ct ex C hC hb p.1 p.2 m hp hm
      exact ⟨(r, n', s'), fun _ => ⟨h1, c⟩⟩
    · exact ⟨(false, 0, 0), fun h => absurd h hp⟩
  exact ⟨fun p => Classical.choose (h p), fun p => Classical.choose_spec (h p)⟩

theorem books_all (ex : Bool) (C : List Int) (hC : C.length ≤ 1048576) (hb : ∀ x ∈ C, 0 ≤ x ∧ x ≤ 255) : ∀ (m : Nat) (n s : Int), 0 ≤ n → n + 14 * m ≤ 999999000 → ∃ (l : List Bk) (N S : Nat → Int), l.length = m ∧ (∀ x ∈ l, bOk x) ∧ N 0 = n ∧ S 0 = s ∧
      (n ≤ N m ∧ N m ≤ n + 14 * (m : Nat)) ∧ ∀ j (hj : j < l.length), CtG Tryz.prog 26 [.bp lid 0] (.box (srcL ex C (N j) (S j))) (bkA l[j]) (.box (srcL ex C (N (j + 1)) (S (j + 1)))) := by
  intro m
  induction m with
  | zero => intro n s h0 h1; exact ⟨[], fun _ => n, fun _ => s, rfl, by simp, rfl, rfl, by simp, by intro j hj; simp at hj⟩
  | succ m ih =>
    intro n s h0 h1
    obtain ⟨p1, p2, p3, p4, p5, p6, p7, n', s', h1', h2, h3, h4, h5, h6, h7, hn', c⟩ := l01One_ct ex C hC hb n s (by omega)
    obtain ⟨q1, q2⟩ := drB_facts (p3 := p3) h1' h2 h4 h5 h6 h7
    generalize drB p1 p2 p3 p4 p5 p6 p7 = a at c q1 q2
    obtain ⟨l, N, S, hl, hal, hN, hS, hNm, hc⟩ := ih n' s' (by omega) (by omega)
    refine ⟨a :: l, fun j => match j with | 0 => n | j + 1 => N j, fun j => match j with | 0 => s | j + 1 => S j, by simp [hl], ?_, rfl, rfl, ?_, ?_⟩
    · intro b hb'
      rcases List.mem_cons.1 hb' with rfl | hb'
      · exact ⟨q2, q1⟩
      · exact hal b hb'
    · show n ≤ N m ∧ N m ≤ n + 14 * ((m + 1 : Nat) : Int)
      omega
    · intro j hj
      cases j with
      | zero => show CtG _ _ _ (.box (srcL ex C n s)) (bkA a) (.box (srcL ex C (N 0) (S 0))); rw [hN, hS]; exact c
      | succ j => exact hc j (by simpa using hj)

/-- Places that are left out, one after another: how many are free behind that, and the source. -/
def inn (F : Int × Int → Bool × Int × Int) : Nat → Int × Int → Nat × Int × Int
  | 0, p => (0, p)
  | f + 1, p => if (F p).1 = true then inn F f (F p).2 else (f + 1, (F p).2)
/-- The places of books, and the source behind them. -/
def drP (F : Int × Int → Bool × Int × Int) : List Bk → Nat → Nat → Int × Int → List Pl × Int × Int
  | [], _, _, p => ([], p)
  | b :: r, a, f, p => (⟨((a + (f - (inn F f p).1) : Nat) : Int), b⟩ :: (drP F r (a + (f - (inn F f p).1) + 1) (inn F f p).1 (inn F f p).2).1, (drP F r (a + (f - (inn F f p).1) + 1) (inn F f p).1 (inn F f p).2).2)

theorem inn_ok {F : Int × Int → Bool × Int × Int} (hF : ∀ p : Int × Int, 0 ≤ p.1 ∧ p.1 ≤ 999999999 → p.1 ≤ (F p).2.1 ∧ (F p).2.1 ≤ p.1 + 2) : ∀ (f : Nat) (p : Int × Int), 0 ≤ p.1 → p.1 + 2 * f ≤ 999999999 →
    (inn F f p).1 ≤ f ∧ p.1 ≤ (inn F f p).2.1 ∧ (inn F f p).2.1 ≤ p.1 + 2 * f + 2
  | 0, p, h0, h1 => ⟨Nat.le_refl 0, Int.le_refl _, by show p.1 ≤ _; omega⟩
  | f + 1, p, h0, h1 => by
    have h := hF p (by omega)
    rw [inn]
    split
    · have ih := inn_ok hF f (F p).2 (by omega) (by omega)
      omega
    · exact ⟨Nat.le_refl _, h.1, by show (F p).2.1 ≤ _; omega⟩

structure DrOk (l : List Bk) (a f : Nat) (p : Int × Int) (L : List Pl) (q : Int × Int) : Prop where
  b : pbs L = l
  lo : ∀ x ∈ L, (a : Int) ≤ x.p
  hi : ∀ x ∈ L, x.p < ((a + f + l.length : Nat) : Int)
  inc : L.Pairwise fun x y => x.p < y.p
  n : p.1 ≤ q.1 ∧ q.1 ≤ p.1 + 2 * ((f + l.length : Nat) : Int)

theorem inn_n {F : Int × Int → Bool × Int × Int} (hF : ∀ p : Int × Int, 0 ≤ p.1 ∧ p.1 ≤ 999999999 → p.1 ≤ (F p).2.1 ∧ (F p).2.1 ≤ p.1 + 2) : ∀ (f : Nat) (p : Int × Int), 0 ≤ p.1 → p.1 + 2 * f ≤ 999999999 →
    (inn F f p).2.1 + 2 * ((inn F f p).1 : Nat) ≤ p.1 + 2 * f + 2
  | 0, p, h0, h1 => by show p.1 + 2 * ((0 : Nat) : Int) ≤ _; omega
  | f + 1, p, h0, h1 => by
    have h := hF p (by omega)
    rw [inn]
    split
    · have ih := inn_n hF f (F p).2 (by omega) (by omega)
      omega
    · show (F p).2.1 + 2 * ((f + 1 : Nat) : Int) ≤ _
      omega

theorem drP_ok {F : Int × Int → Bool × Int × Int} (hF : ∀ p : Int × Int, 0 ≤ p.1 ∧ p.1 ≤ 999999999 → p.1 ≤ (F p).2.1 ∧ (F p).2.1 ≤ p.1 + 2) : ∀ (l : List Bk) (a f : Nat) (p : Int × Int), 0 ≤ p.1 → p.1 + 2 * ((f + l.length : Nat) : Int) ≤ 999999999 →
    DrOk l a f p (drP F l a f p).1 (drP F l a f p).2
  | [], a, f, p, h0, h1 => ⟨rfl, fun x hx => by simp [drP] at hx, fun x hx => by simp [drP] at hx, List.Pairwise.nil, ⟨Int.le_refl _, by show p.1 ≤ _; omega⟩⟩
  | b :: r, a, f, p, h0, h1 => by
    rw [List.length_cons] at h1
    obtain ⟨i1, i2, i3⟩ := inn_ok hF f p h0 (by omega)
    have i4 := inn_n hF f p h0 (by omega)
    rw [drP]
    generalize inn F f p = Q at *
    obtain ⟨f2, p2⟩ := Q
    simp only at i1 i2 i3 i4 ⊢
    obtain ⟨d1, d2, d3, d4, d5⟩ := drP_ok hF r (a + (f - f2) + 1) f2 p2 (by omega) (by omega)
    generalize drP F r (a + (f - f2) + 1) f2 p2 = R at *
    refine ⟨?_, ?_, ?_, ?_, ?_⟩
    · show b :: pbs R.1 = b :: r
      rw [d1]
    · intro x hx
      rcases List.mem_cons.1 hx with rfl | hx
      · show (a : Int) ≤ ((a + (f - f2) : Nat) : Int)
        omega
      · have := d2 x hx
        omega
    · intro x hx
      rw [List.length_cons]
      rcases List.mem_cons.1 hx with rfl | hx
      · show ((a + (f - f2) : Nat) : Int) < _
        omega
      · have := d3 x hx
        omega
    · rw [List.pairwise_cons]
      refine ⟨fun y hy => ?_, d4⟩
      have := d2 y hy
      show ((a + (f - f2) : Nat) : Int) < y.p
      omega
    · rw [List.length_cons]
      show p.1 ≤ R.2.1 ∧ R.2.1 ≤ _
      omega

theorem dr_VR {l : List Bk} {f : Nat} {p q : Int × Int} {L : List Pl} (h : DrOk l 0 f p L q) (hl : ∀ x ∈ l, bOk x) (hs : Srt l) (hn : 1 ≤ l.length + f ∧ l.length + f ≤ 60) : VR ((l.length + f : Nat) : Int) L ∧ (∀ x ∈ L, bkRng x.b) := by
  have hlen : L.length = l.length := by rw [← h.b, pbs_len]
  have hbk : ∀ x ∈ L, bOk x.b := fun x hx => hl _ (by rw [← h.b]; exact List.mem_map.2 ⟨x, hx, rfl⟩)
  refine ⟨⟨by omega, fun i j hij hj => ?_, fun i hi => ?_, fun x hx => (hbk x hx).2, fun i j hij hj => ?_⟩, fun x hx => (hbk x hx).1⟩
  · rw [pa_get (by omega), pa_get hj]
    exact List.pairwise_iff_getElem.1 h.inc i j (by omega) hj hij
  · rw [pa_get hi]
    have h1 := h.lo _ (List.getElem_mem hi)
    have h2 := h.hi _ (List.getElem_mem hi)
    omega
  · rw [ba_get (by omega), ba_get hj]
    have hp : ∀ k (hk : k < L.length), L[k].b = l[k]'(by omega) := by
      intro k hk
      have : (pbs L)[k]'(by rw [pbs_len]; exact hk) = l[k]'(by omega) := by simp only [h.b]
      rw [← this]
      simp [pbs]
    rw [hp i (by omega), hp j hj]
    exact List.pairwise_iff_getElem.1 hs i j (by omega) (by omega) hij
end Go.Proofs.YtofakfkmglmhoaaGreat
