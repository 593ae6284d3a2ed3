/- Contracts of the program's functions, and what follows from them. -/
import Derived.Test.YtlccbfdeonmljaaE49
set_option linter.unusedVariables false
set_option maxRecDepth 100000
set_option linter.unusedSimpArgs false
namespace Go.Proofs.Ytlccbfdeonmljaa
open Go Go.Av

/-! What is drawn out of bytes: a desk that has taken acts. -/

theorem acDr_rng {a : Ac} (h : acDr a) : acRng a := by
  obtain ⟨h1, h2, h3, _⟩ := h
  unfold acRng i8r
  omega

theorem acts_all (ex : Bool) (C : List Int) (hC : C.length ≤ 1048576) (hb : ∀ x ∈ C, 0 ≤ x ∧ x ≤ 255) : ∀ (m : Nat) (n s : Int), 0 ≤ n → n + 8 * m ≤ 999999900 → ∃ (l : List Ac) (N S : Nat → Int), l.length = m ∧ (∀ a ∈ l, acDr a) ∧ N 0 = n ∧ S 0 = s ∧
      (n ≤ N m ∧ N m ≤ n + 8 * m) ∧ ∀ j (hj : j < l.length), CtG Try.prog 30 [.bp lid 0] (.box (srcL ex C (N j) (S j))) (acA l[j]) (.box (srcL ex C (N (j + 1)) (S (j + 1)))) := by
  intro m
  induction m with
  | zero => intro n s h0 h1; exact ⟨[], fun _ => n, fun _ => s, rfl, by simp, rfl, rfl, by simp, by intro j hj; simp at hj⟩
  | succ m ih =>
    intro n s h0 h1
    obtain ⟨a, n', s', ha, hn', c⟩ := l06ActDrawn_ct ex C hC hb n s (by omega)
    obtain ⟨l, N, S, hl, hal, hN, hS, hNm, hc⟩ := ih n' s' (by omega) (by omega)
    refine ⟨a :: l, fun j => match j with | 0 => n | j + 1 => N j, fun j => match j with | 0 => s | j + 1 => S j, by simp [hl], ?_, rfl, rfl, ?_, ?_⟩
    · intro b hb'
      rcases List.mem_cons.1 hb' with rfl | hb'
      · exact ha
      · exact hal b hb'
    · show n ≤ N m ∧ N m ≤ n + 8 * ((m + 1 : Nat) : Int)
      omega
    · intro j hj
      cases j with
      | zero => show CtG _ _ _ (.box (srcL ex C n s)) (acA a) (.box (srcL ex C (N 0) (S 0))); rw [hN, hS]; exact c
      | succ j => exact hc j (by simpa using hj)

/-- The desk behind acts, those that fail left out. -/
def dwR : List Ac → Dk → Dk
  | [], d => d
  | a :: l, d => if (apR d a).2.2 = 0 then dwR l (apR d a).1 else dwR l d
def dwF : List Ac → Dk → Bool → Bool
  | [], _, e => e
  | a :: l, d, e => if (apR d a).2.2 = 0 then dwF l (apR d a).1 false else dwF l d e
theorem dwR_wd : ∀ (l : List Ac) {d : Dk}, (∀ a ∈ l, acRng a) → WD d → WD (dwR l d)
  | [], _, _, h => h
  | a :: l, d, ha, h => by
    unfold dwR
    split
    · exact dwR_wd l (fun b hb => ha b (List.mem_cons_of_mem _ hb)) (h.ap (ha a (by simp)) (by assumption)).1
    · exact dwR_wd l (fun b hb => ha b (List.mem_cons_of_mem _ hb)) h

theorem empD_wd {n : Int} (h : 0 ≤ n ∧ n ≤ 60) : WD (empD n) := by
  have e : empD n = ⟨0, List.replicate n.toNat cp0⟩ := by rw [empD, if_pos (by simp [inr]; omega)]
  rw [e]
  refine ⟨by simp, by simp; omega, fun c hc => ?_, fun c hc => ?_⟩
  · have := (List.mem_replicate.1 hc).2
    subst this
    unfold cpRng i8r i16r cp0
    simp
  · have := (List.mem_replicate.1 hc).2
    subst this
    simp [cp0]

noncomputable def X27 : Fx := ⟨Try.prog, tys, 27, Try.f27, [0]⟩
theorem X27_ok : X27.Ok := ⟨Try.func27, tys_ok⟩
theorem l06Drawn_ct (ex : Bool) (C : List Int) (hC : C.length ≤ 1048576) (hb : ∀ x ∈ C, 0 ≤ x ∧ x ≤ 255) (n s : Int) (hn : 0 ≤ n ∧ n ≤ 999990000) :
    ∃ (p : Int) (l : List Ac) (m : Nat) (e : Bool) (n' s' : Int), (0 ≤ p ∧ p < 5) ∧ l.length < 24 ∧ (∀ a ∈ l, acDr a) ∧ m < 40 ∧ (n ≤ n' ∧ n' ≤ n + 1000) ∧
      CtG Try.prog 27 [.bp lid 0] (.box (srcL ex C n s)) (dkR e e (dyR m (dwR l (empD p)))) (.box (srcL ex C n' s')) := by
  obtain ⟨p, n1, s1, hp, hn1, c1⟩ := pick_ct ex C hC hb n s 5 (by omega) (by omega)
  obtain ⟨k, n2, s2, hk, hn2, c2⟩ := pick_ct ex C hC hb n1 s1 24 (by omega) (by omega)
  obtain ⟨l, N, S, hl, hal, hN, hS, hNm, hc⟩ := acts_all ex C hC hb k.toNat n2 s2 (by omega) (by omega)
  have hkl : k = (l.length : Int) := by omega
  subst hkl
  rw [Int.toNat_natCast] at hNm
  obtain ⟨b, n3, s3, hn3, c3⟩ := one_ct ex C hC hb (N l.length) (S l.length) 3 (by omega) (by omega)
  have hE := empD_wd (n := p) (by omega)
  have hWl := dwR_wd l (fun a ha => acDr_rng (hal a ha)) hE
  have hEc : empC p = 0 := by rw [empC, if_pos (by simp [inr]; omega)]
  have hED := specEmptyDesk_ct p
  rw [hEc] at hED
  have hfzE : (AV.tup [dkO (empD p), i64 0]).frz = .tup [dkR true true (empD p), i64 0] := by
    simp only [AV.frz, AV.frzL, dkO_frz]
  have hrfE : (AV.tup [dkO (empD p), i64 0]).rf = true := by simp only [AV.rf, AV.rfL, dkO_rf]; rfl
  cases b with
  | false =>
    refine ⟨p, l, 0, dwF l (empD p) true, n3, s3, by omega, by omega, hal, by omega, by omega, ?_⟩
    show CtG _ _ _ _ (dkR _ _ (dwR l (empD p))) _
    refine CtG.intro X27 X27_ok rfl (by kernel_rfl) rfl rfl rfl rfl rfl fun g v0 hg => ?_
    repeat (refine Run.go rfl ?_)
    refine Run.callG lid rfl rfl rfl rfl rfl rfl rfl rfl c1 rfl rfl ?_
    refine Run.cs rfl hED rfl hrfE ?_
    refine Run.freeze (v' := .tup [dkR true true (empD p), i64 0]) 12 rfl rfl hfzE ?_
    repeat (refine Run.go rfl ?_)
    refine Run.callG lid rfl rfl rfl rfl rfl rfl rfl rfl c2 rfl rfl ?_
    repeat (refine Run.go rfl ?_)
    refine Run.loop (fun q : Nat × Dk × Bool => ⟨[(0, .bp lid 0), (2, .bp (2, 0) 0), (3, .bp (3, 0) 0), (5, i64 ((l.length - q.1 : Nat) : Int))],
      [(lid, .box (srcL ex C (N q.1) (S q.1))), (lidT, .tie v0 lid), ((2, 0), .box [i16 0, .lit (.slice none 0 0)]), ((3, 0), .box (dkR q.2.2 q.2.2 q.2.1).cells)]⟩)
      (fun q => q.1 ≤ l.length ∧ WD q.2.1 ∧ dwR l (empD p) = dwR (l.drop q.1) q.2.1 ∧ dwF l (empD p) true = dwF (l.drop q.1) q.2.1 q.2.2) (fun q => l.length - q.1) (0, empD p, true) ⟨by simp, hE, rfl, rfl⟩ ?_ ?_
    · show St.Le _ _
      refine St.Le.mk' ⟨rfl, rfl, rfl, rfl, trivial⟩ ⟨?_, rfl, rfl, rfl, trivial⟩
      show Ob.box (srcL ex C n2 s2) = Ob.box (srcL ex C (N 0) (S 0))
      rw [hN, hS]
    rintro ⟨j, D, e⟩ ⟨hj, hWD, hd, he⟩ IH
    simp only at hj hWD hd he IH
    repeat (refine Run.go rfl ?_)
    refine Run.cond rfl (fun h => ?_) (fun h => ?_)
    · have hlt : j < l.length := by
        have : (((l.length - j : Nat) : Int)) > 0 := of_decide_eq_true h
        omega
      rw [List.drop_eq_getElem_cons hlt] at hd he
      rw [dwR] at hd
      rw [dwF] at he
      have hcj := hc j hlt
      have haj := acDr_rng (hal l[j] (by simp))
      generalize l[j] = a at hd he hcj haj
      have hct := l06Apply_ct D e e a hWD haj
      have hwd := hWD.ap haj
      have hfz := apA_frz (apR D a)
      have hrf := apA_rf (apR D a)
      generalize apR D a = R at hct hwd hd he hfz hrf
      obtain ⟨D2, f, c⟩ := R
      simp only at hct hwd hd he hfz
      have hw5 : IntKind.i64.wrap (((l.length - j : Nat) : Int) - 1) = ((l.length - (j + 1) : Nat) : Int) := by rw [wrap_i64 (by omega) (by omega)]; omega
      repeat (refine Run.go rfl ?_)
      refine Run.callG lid rfl rfl rfl rfl rfl rfl rfl rfl hcj rfl rfl ?_
      refine Run.cs rfl hct rfl hrf ?_
      refine Run.freeze (v' := .tup [dkR false false D2, i64 f, i64 c]) 24 rfl rfl hfz ?_
      repeat (refine Run.go rfl ?_)
      refine Run.cond rfl (fun h => ?_) (fun h => ?_)
      · have h : c = 0 := by simpa using h
        rw [if_pos h] at hd he
        repeat (refine Run.go rfl ?_)
        refine Run.of (IH (j + 1, D2, false) ⟨hlt, (hwd h).1, hd, he⟩ (by show l.length - (j + 1) < l.length - j; omega)) ⟨rfl, rfl, rfl, ?_, trivial⟩ ⟨rfl, rfl, rfl, rfl, trivial⟩
        show i64 _ = i64 _
        rw [hw5]
      · have h : c ≠ 0 := by simpa using h
        rw [if_neg h] at hd he
        repeat (refine Run.go rfl ?_)
        refine Run.of (IH (j + 1, D, e) ⟨hlt, hWD, hd, he⟩ (by show l.length - (j + 1) < l.length - j; omega)) ⟨rfl, rfl, rfl, ?_, trivial⟩ ⟨rfl, rfl, rfl, rfl, trivial⟩
        show i64 _ = i64 _
        rw [hw5]
    · have hjl : j = l.length := by
        have : ¬ (((l.length - j : Nat) : Int)) > 0 := of_decide_eq_false h
        omega
      subst hjl
      rw [List.drop_length] at hd he
      rw [dwR] at hd
      rw [dwF] at he
      rw [hd, he] at hg
      repeat (refine Run.go rfl ?_)
      refine Run.callG lid rfl rfl rfl rfl rfl rfl rfl rfl c3 rfl rfl ?_
      repeat (refine Run.go rfl ?_)
      refine Run.cond rfl (fun h => by simp at h) (fun _ => ?_)
      repeat (refine Run.go rfl ?_)
      exact Run.retG hg rfl rfl rfl rfl rfl rfl
  | true =>
    obtain ⟨m, n4, s4, hm, hn4, c4⟩ := pick_ct ex C hC hb n3 s3 40 (by omega) (by omega)
    refine ⟨p, l, m.toNat, dyF m.toNat (dwR l (empD p)) (dwF l (empD p) true), n4, s4, by omega, by omega, hal, by omega, by omega, ?_⟩
    have hdy0 := fun (D : Dk) (e : Bool) (h : WD D) => l06Days_ct D e h m.toNat (by omega)
    rw [show ((m.toNat : Nat) : Int) = m by omega] at hdy0
    refine CtG.intro X27 X27_ok rfl (by kernel_rfl) rfl rfl rfl rfl rfl fun g v0 hg => ?_
    repeat (refine Run.go rfl ?_)
    refine Run.callG lid rfl rfl rfl rfl rfl rfl rfl rfl c1 rfl rfl ?_
    refine Run.cs rfl hED rfl hrfE ?_
    refine Run.freeze (v' := .tup [dkR true true (empD p), i64 0]) 12 rfl rfl hfzE ?_
    repeat (refine Run.go rfl ?_)
    refine Run.callG lid rfl rfl rfl rfl rfl rfl rfl rfl c2 rfl rfl ?_
    repeat (refine Run.go rfl ?_)
    refine Run.loop (fun q : Nat × Dk × Bool => ⟨[(0, .bp lid 0), (2, .bp (2, 0) 0), (3, .bp (3, 0) 0), (5, i64 ((l.length - q.1 : Nat) : Int))],
      [(lid, .box (srcL ex C (N q.1) (S q.1))), (lidT, .tie v0 lid), ((2, 0), .box [i16 0, .lit (.slice none 0 0)]), ((3, 0), .box (dkR q.2.2 q.2.2 q.2.1).cells)]⟩)
      (fun q => q.1 ≤ l.length ∧ WD q.2.1 ∧ dwR l (empD p) = dwR (l.drop q.1) q.2.1 ∧ dwF l (empD p) true = dwF (l.drop q.1) q.2.1 q.2.2) (fun q => l.length - q.1) (0, empD p, true) ⟨by simp, hE, rfl, rfl⟩ ?_ ?_
    · show St.Le _ _
      refine St.Le.mk' ⟨rfl, rfl, rfl, rfl, trivial⟩ ⟨?_, rfl, rfl, rfl, trivial⟩
      show Ob.box (srcL ex C n2 s2) = Ob.box (srcL ex C (N 0) (S 0))
      rw [hN, hS]
    rintro ⟨j, D, e⟩ ⟨hj, hWD, hd, he⟩ IH
    simp only at hj hWD hd he IH
    repeat (refine Run.go rfl ?_)
    refine Run.cond rfl (fun h => ?_) (fun h => ?_)
    · have hlt : j < l.length := by
        have : (((l.length - j : Nat) : Int)) > 0 := of_decide_eq_true h
        omega
      rw [List.drop_eq_getElem_cons hlt] at hd he
      rw [dwR] at hd
      rw [dwF] at he
      have hcj := hc j hlt
      have haj := acDr_rng (hal l[j] (by simp))
      generalize l[j] = a at hd he hcj haj
      have hct := l06Apply_ct D e e a hWD haj
      have hwd := hWD.ap haj
      have hfz := apA_frz (apR D a)
      have hrf := apA_rf (apR D a)
      generalize apR D a = R at hct hwd hd he hfz hrf
      obtain ⟨D2, f, c⟩ := R
      simp only at hct hwd hd he hfz
      have hw5 : IntKind.i64.wrap (((l.length - j : Nat) : Int) - 1) = ((l.length - (j + 1) : Nat) : Int) := by rw [wrap_i64 (by omega) (by omega)]; omega
      repeat (refine Run.go rfl ?_)
      refine Run.callG lid rfl rfl rfl rfl rfl rfl rfl rfl hcj rfl rfl ?_
      refine Run.cs rfl hct rfl hrf ?_
      refine Run.freeze (v' := .tup [dkR false false D2, i64 f, i64 c]) 24 rfl rfl hfz ?_
      repeat (refine Run.go rfl ?_)
      refine Run.cond rfl (fun h => ?_) (fun h => ?_)
      · have h : c = 0 := by simpa using h
        rw [if_pos h] at hd he
        repeat (refine Run.go rfl ?_)
        refine Run.of (IH (j + 1, D2, false) ⟨hlt, (hwd h).1, hd, he⟩ (by show l.length - (j + 1) < l.length - j; omega)) ⟨rfl, rfl, rfl, ?_, trivial⟩ ⟨rfl, rfl, rfl, rfl, trivial⟩
        show i64 _ = i64 _
        rw [hw5]
      · have h : c ≠ 0 := by simpa using h
        rw [if_neg h] at hd he
        repeat (refine Run.go rfl ?_)
        refine Run.of (IH (j + 1, D, e) ⟨hlt, hWD, hd, he⟩ (by show l.length - (j + 1) < l.length - j; omega)) ⟨rfl, rfl, rfl, ?_, trivial⟩ ⟨rfl, rfl, rfl, rfl, trivial⟩
        show i64 _ = i64 _
        rw [hw5]
    · have hjl : j = l.length := by
        have : ¬ (((l.length - j : Nat) : Int)) > 0 := of_decide_eq_false h
        omega
      subst hjl
      rw [List.drop_length] at hd he
      rw [dwR] at hd
      rw [dwF] at he
      rw [hd, he] at hg
      have hdy := hdy0 D e hWD
      repeat (refine Run.go rfl ?_)
      refine Run.callG lid rfl rfl rfl rfl rfl rfl rfl rfl c3 rfl rfl ?_
      repeat (refine Run.go rfl ?_)
      refine Run.cond rfl (fun _ => ?_) (fun h => by simp at h)
      refine Run.drawn [[0, 1, 2, 3, 4], [1, 0, 2, 3, 4], [1, 2, 0, 3, 4]] ⟨[(0, .bp lid 0), (2, .bp (2, 0) 0), (3, .bp (3, 0) 0)], [(lid, .box (srcL ex C n4 s4)), (lidT, .tie v0 lid), ((2, 0), .box [i16 0, .lit (.slice none 0 0)]), ((3, 0), .box (dkR (dyF m.toNat D e) (dyF m.toNat D e) (dyR m.toNat D)).cells)]⟩ (by decide +kernel) (by kernel_rfl) ?_ fun _ hN' => ⟨?_, ?_, ?_, trivial⟩
      · repeat (refine Run.go rfl ?_)
        exact Run.retG hg rfl rfl rfl rfl rfl rfl
      all_goals
        repeat (refine Run.go rfl ?_)
        refine Run.callG lid rfl rfl rfl rfl rfl rfl rfl rfl c4 rfl rfl ?_
        repeat (refine Run.go rfl ?_)
        refine Run.callp rfl rfl rfl rfl rfl rfl rfl rfl rfl hdy (by decide) (by decide) ?_
        repeat (refine Run.go rfl ?_)
        exact Run.of hN' ⟨rfl, rfl, rfl, trivial⟩ ⟨rfl, rfl, rfl, rfl, trivial⟩
end Go.Proofs.Ytlccbfdeonmljaa
