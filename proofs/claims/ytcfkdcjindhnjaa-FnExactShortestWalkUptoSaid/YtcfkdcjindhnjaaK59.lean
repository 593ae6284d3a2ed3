/- Contracts of the program's functions, and what follows from them. -/
import Derived.Test.YtcfkdcjindhnjaaK58
import Derived.Test.YtcfkdcjindhnjaaMH
set_option linter.unusedVariables false
set_option maxRecDepth 100000
set_option linter.unusedSimpArgs false
namespace Go.Proofs.Ytcfkdcjindhnjaa
open Go Go.Av

/-! At most sixty numbers are sorted. -/

theorem wZ {a : Nat} (h0 : 0 < a) (h : a ≤ 100000) : IntKind.i64.wrap (((a : Nat) : Int) - 1) = ((a - 1 : Nat) : Int) := by rw [wrap_i64 (by omega) (by omega)]; omega
theorem ss_glue {D : List Int} {a m b : Nat} (h1 : SS D a m) (h2 : SS D (m + 1) b) (h3 : ∀ k, a ≤ k → k < m → D.getD k 0 ≤ D.getD m 0) (h4 : ∀ k, m < k → k < b → D.getD m 0 ≤ D.getD k 0) : SS D a b := by
  intro i j hi hij hj
  rcases Nat.lt_trichotomy i m with h | h | h
  · rcases Nat.lt_trichotomy j m with h' | h' | h'
    · exact h1 i j hi hij h'
    · subst h'; exact h3 i hi h
    · exact Int.le_trans (h3 i hi h) (h4 j h' hj)
  · subst h
    by_cases e : i = j
    · subst e; exact Int.le_refl _
    · exact h4 j (by omega) hj
  · exact h2 i j (by omega) hij hj

/-- What is left to do: from a to b. -/
def Good (A : List Int) (a b a0 b0 : Nat) : Prop := ∀ B, PS a b A B → SS B a b → SS B a0 b0
theorem Good.keep {A B : List Int} {a b a0 b0 : Nat} (h : Good A a b a0 b0) (hp : PS a b A B) : Good B a b a0 b0 := fun C hC hs => h C (hp.trans hC) hs
theorem good_left {A B : List Int} {a b a0 b0 m : Nat} (h : Good A a b a0 b0) (ha : a ≤ m) (hm : m < b) (hb : b ≤ A.length) (hpt : PT A a b m) (hp : PS a m A B) (hs : SS B a m) : Good B (m + 1) b a0 b0 := by
  intro C hC hsC
  have hl := hp.len
  have hBA : PS a b A B := hp.mono (by omega) (by omega) (by omega)
  refine h C (hBA.trans (hC.mono (by omega) (by omega) (by omega))) (ss_glue (hs.out hC (by omega)) hsC ?_ ?_)
  · intro k h1 h2
    rw [hC.out (by omega), hC.out (k := m) (by omega), hp.out (k := m) (by omega)]
    exact hp.all (P := fun x => x ≤ A.getD m 0) hpt.1 k h1 h2
  · intro k h1 h2
    rw [hC.out (k := m) (by omega), hp.out (k := m) (by omega)]
    refine hC.all (P := fun x => A.getD m 0 ≤ x) (fun k h1 h2 => ?_) k (by omega) h2
    show A.getD m 0 ≤ B.getD k 0
    rw [hp.out (by omega)]
    exact hpt.2 k (by omega) h2
theorem good_right {A B : List Int} {a b a0 b0 m : Nat} (h : Good A a b a0 b0) (ha : a ≤ m) (hm : m < b) (hb : b ≤ A.length) (hpt : PT A a b m) (hp : PS (m + 1) b A B) (hs : SS B (m + 1) b) : Good B a m a0 b0 := by
  intro C hC hsC
  have hl := hp.len
  have hBA : PS a b A B := hp.mono (by omega) (by omega) (by omega)
  refine h C (hBA.trans (hC.mono (by omega) (by omega) (by omega))) (ss_glue hsC (hs.out hC (by omega)) ?_ ?_)
  · intro k h1 h2
    rw [hC.out (k := m) (by omega), hp.out (k := m) (by omega)]
    refine hC.all (P := fun x => x ≤ A.getD m 0) (fun k h1 h2 => ?_) k h1 h2
    show B.getD k 0 ≤ A.getD m 0
    rw [hp.out (by omega)]
    exact hpt.1 k h1 h2
  · intro k h1 h2
    rw [hC.out (k := k) (by omega), hC.out (k := m) (by omega), hp.out (k := m) (by omega)]
    exact hp.all (P := fun x => A.getD m 0 ≤ x) (fun k h1 h2 => hpt.2 k (by omega) h2) k (by omega) h2
theorem low_right {A B : List Int} {a b m : Nat} (hm : m < b) (hpt : PT A a b m) (hp : PS a m A B) : Low B (m + 1) b := by
  refine .inr fun k h1 h2 => ?_
  rw [Nat.add_sub_cancel, hp.out (k := m) (by omega), hp.out (by omega)]
  exact hpt.2 k (by omega) h2
theorem low_left {A B : List Int} {a b m : Nat} (h : Low A a b) (hm : m < b) (hp : PS (m + 1) b A B) (ha : a ≤ m) : Low B a m := by
  rcases h with h | h
  · exact .inl h
  · by_cases h0 : a = 0
    · exact .inl h0
    · refine .inr fun k h1 h2 => ?_
      rw [hp.out (by omega), hp.out (by omega)]
      exact h k h1 (by omega)
theorem low_sub {A : List Int} {a b m : Nat} (h : Low A a b) (hm : m ≤ b) : Low A a m := h.imp id fun h k h1 h2 => h k h1 (by omega)
/-- Those that equal the least are ahead. -/
theorem equal_ok {A B : List Int} {a b a0 b0 m p : Nat} (hg : Good A a b a0 b0) (hlow : Low A a b) (ha : 0 < a) (hap : a ≤ p) (hpb : p < b) (hb : b ≤ A.length) (hle : ¬ A.getD (a - 1) 0 < A.getD p 0)
    (hp : PS a b A B) (h1 : a < m) (h2 : m ≤ b) (h3 : ∀ k, a ≤ k → k < m → B.getD k 0 ≤ A.getD p 0) : Low B m b ∧ Good B m b a0 b0 := by
  have hl := hp.len
  have hall : ∀ k, a ≤ k → k < b → A.getD p 0 ≤ A.getD k 0 := by
    intro k hk1 hk2
    rcases hlow with h | h
    · omega
    · have := h k hk1 hk2
      omega
  have hB := hp.all (P := fun x => A.getD p 0 ≤ x) hall
  refine ⟨.inr fun k hk1 hk2 => Int.le_trans (h3 (m - 1) (by omega) (by omega)) (hB k (by omega) hk2), fun C hC hs => ?_⟩
  have hAC := hp.trans (hC.mono (a' := a) (b' := b) (by omega) (by omega) (by omega))
  refine hg C hAC fun i j hi hij hj => ?_
  by_cases him : i < m
  · refine Int.le_trans ?_ (hAC.all (P := fun x => A.getD p 0 ≤ x) hall j (by omega) hj)
    rw [hC.out (by omega)]
    exact h3 i hi him
  · exact hs i j (by omega) hij hj

noncomputable def X38 : Fx := ⟨Try.prog, tys, 38, Try.f38, [0]⟩
theorem X38_ok : X38.Ok := ⟨Try.func38, tys_ok⟩
set_option maxHeartbeats 4000000 in
theorem pdq_ct (n : Nat) (e : Bool) (hn1 : n ≤ 60) : ∀ (m : Nat) (A0 : List Int) (a0 b0 : Nat) (k0 : Int), A0.length = n → a0 + m = b0 → b0 ≤ n → Low A0 a0 b0 →
    CtE Try.prog 38 [.vec lid 0 n, i64 (a0 : Nat), i64 (b0 : Nat), i64 k0] (.vec 1 e (A0.map i64)) (fun B : List Int => PS a0 b0 A0 B ∧ SS B a0 b0) (fun _ => .tup []) (fun B => .vec 1 e (B.map i64)) := by
  intro m
  induction m using Nat.strongRecOn with
  | _ m IHm =>
  intro A0 a0 b0 k0 hn hm hb0 hlow0
  refine CtE.intro X38 X38_ok rfl (by kernel_rfl) rfl rfl (fun _ _ => rfl) (fun _ _ => rfl) rfl fun g v0 hg => ?_
  repeat (refine Run.go rfl ?_)
  refine Run.loop (fun z : Nat × Nat × Int × Bool × Bool × List Int => ⟨[(0, .vec lid 0 n), (1, i64 (z.1 : Nat)), (2, i64 (z.2.1 : Nat)), (3, i64 z.2.2.1), (8, bo z.2.2.2.1), (9, bo z.2.2.2.2.1)], [(lid, .vec 1 e (z.2.2.2.2.2.map i64)), (lidT, .tie v0 lid)]⟩)
    (fun z => a0 ≤ z.1 ∧ z.1 ≤ z.2.1 ∧ z.2.1 ≤ b0 ∧ PS a0 b0 A0 z.2.2.2.2.2 ∧ Low z.2.2.2.2.2 z.1 z.2.1 ∧ Good z.2.2.2.2.2 z.1 z.2.1 a0 b0) (fun z => z.2.1 - z.1) (a0, b0, k0, true, true, A0)
    ⟨Nat.le_refl _, by show a0 ≤ b0; omega, Nat.le_refl _, .refl, hlow0, fun B _ h => h⟩ ?_ ?_
  · exact St.Le.mk' ⟨rfl, rfl, rfl, rfl, rfl, rfl, trivial⟩ ⟨rfl, rfl, trivial⟩
  rintro ⟨a, b, k1, β1, β2, A1⟩ ⟨haa, hab, hbb, hps1, hlow1, hgd1⟩ IH
  dsimp only at haa hab hbb hps1 hlow1 hgd1 IH ⊢
  have hAl1 : A1.length = n := by rw [hps1.len, hn]
  have up : ∀ {A B : List Int}, PS a0 b0 A0 A → PS a b A B → PS a0 b0 A0 B := fun {A B} h1 h2 => h1.trans (h2.mono haa hbb (by rw [h1.len]; omega))
  obtain ⟨h, hh⟩ : ∃ h, b = a + h := ⟨b - a, by omega⟩
  have hw0 := wM (a := b) (b := a) (c := h) hh (by omega)
  repeat (refine Run.go rfl ?_)
  refine Run.cond rfl (fun hc => ?_) (fun hc => ?_)
  · repeat (refine Run.go rfl ?_)
    refine Run.callE lid rfl rfl rfl rfl rfl rfl rfl rfl (insR_ct n A1 e a b hAl1 (by omega) hab (by omega)) rfl rfl fun B hB => ?_
    repeat (refine Run.go rfl ?_)
    exact Run.retE B ⟨up hps1 hB.1, hgd1 B hB.1 hB.2⟩ hg rfl rfl rfl rfl rfl rfl
  have h12 : 12 < h := by
    have hc : decide (IntKind.i64.wrap ((b : Nat) - (a : Nat) : Int) ≤ 12) = false := hc
    rw [hw0] at hc
    have := of_decide_eq_false hc
    omega
  clear hc
  repeat (refine Run.go rfl ?_)
  refine Run.cond rfl (fun hc => ?_) (fun hc => ?_)
  · repeat (refine Run.go rfl ?_)
    refine Run.callE lid rfl rfl rfl rfl rfl rfl rfl rfl (heap_ct n A1 e a b hAl1 (by omega) (by omega) (by omega)) rfl rfl fun B hB => ?_
    repeat (refine Run.go rfl ?_)
    exact Run.retE B ⟨up hps1 hB.1, hgd1 B hB.1 hB.2⟩ hg rfl rfl rfl rfl rfl rfl
  clear hc
  repeat (refine Run.go rfl ?_)
  refine Run.condJE (fun p : List Int × Int => PS a b A1 p.1) (fun p => ⟨[(0, .vec lid 0 n), (1, i64 (a : Nat)), (2, i64 (b : Nat)), (3, i64 p.2), (8, bo β1), (9, bo β2), (10, i64 (IntKind.i64.wrap ((b : Nat) - (a : Nat) : Int)))], [(lid, .vec 1 e (p.1.map i64)), (lidT, .tie v0 lid)]⟩)
    rfl (fun hc k' hN => ?_) (fun hc k' hN => ?_) ?_
  · repeat (refine Run.go rfl ?_)
    refine Run.callE lid rfl rfl rfl rfl rfl rfl rfl rfl (bpat_ct n A1 e a b hAl1 hn1 (by omega) (by omega)) rfl rfl fun B hB => ?_
    repeat (refine Run.go rfl ?_)
    have hN2 := hN (B, IntKind.i64.wrap (k1 - 1)) hB
    dsimp only at hN2
    exact Run.of hN2 ⟨rfl, rfl, rfl, rfl, rfl, rfl, rfl, trivial⟩ ⟨rfl, rfl, trivial⟩
  · repeat (refine Run.go rfl ?_)
    have hN2 := hN (A1, k1) (show PS a b A1 A1 from .refl)
    dsimp only at hN2
    exact Run.of hN2 ⟨rfl, rfl, rfl, rfl, rfl, rfl, rfl, trivial⟩ ⟨rfl, rfl, trivial⟩
  rintro ⟨A2, k2⟩ hA2
  have hps2 := up hps1 hA2
  have hlow2 := hlow1.keep hA2
  have hgd2 := hgd1.keep hA2
  have hAl2 : A2.length = n := by rw [hps2.len, hn]
  dsimp only
  clear hps1 hlow1 hgd1 hAl1 hA2
  repeat (refine Run.go rfl ?_)
  obtain ⟨x1, s, hx1, hcp⟩ := cpivot_ct A2 e a b (by omega) (by omega) (by omega)
  refine Run.cs rfl hcp (by
    show [bif Nat.beq 0 0 && decide (n = (A2.map i64).length) then AV.ro 1 e (AV.frzL (A2.map i64)) else _, i64 (a : Nat), i64 (b : Nat)] = _
    rw [show decide (n = (A2.map i64).length) = true from decide_eq_true (by rw [List.length_map, hAl2]), frz64]
    rfl) rfl ?_
  repeat (refine Run.go rfl ?_)
  refine Run.condJE (fun p : List Int × Nat × Int => PS a b A2 p.1 ∧ a ≤ p.2.1 ∧ p.2.1 < b) (fun p => ⟨[(0, .vec lid 0 n), (1, i64 (a : Nat)), (2, i64 (b : Nat)), (3, i64 k2), (8, bo β1), (9, bo β2), (10, i64 (IntKind.i64.wrap ((b : Nat) - (a : Nat) : Int))), (11, i64 (p.2.1 : Nat)), (12, i64 p.2.2)], [(lid, .vec 1 e (p.1.map i64)), (lidT, .tie v0 lid)]⟩)
    rfl (fun hc k' hN => ?_) (fun hc k' hN => ?_) ?_
  · repeat (refine Run.go rfl ?_)
    refine Run.callE lid rfl rfl rfl rfl rfl rfl rfl rfl (rrange_ct n A2 e a b hAl2 (by omega) (by omega) (by omega)) rfl rfl fun B hB => ?_
    have hwb := wZ (a := b) (by omega) (by omega)
    have hwx := wM (a := x1) (b := a) (c := x1 - a) (by omega) (by omega)
    have hwy := wM (a := b - 1) (b := x1 - a) (c := b - 1 - (x1 - a)) (by omega) (by omega)
    repeat (refine Run.go rfl ?_)
    have hN2 := hN (B, b - 1 - (x1 - a), 1) ⟨hB, by show a ≤ b - 1 - (x1 - a); omega, by show b - 1 - (x1 - a) < b; omega⟩
    dsimp only at hN2
    refine Run.of hN2 ⟨rfl, rfl, rfl, rfl, rfl, rfl, rfl, ?_, rfl, trivial⟩ ⟨rfl, rfl, trivial⟩
    show i64 _ = i64 _
    rw [hwb, hwx, hwy]
  · repeat (refine Run.go rfl ?_)
    have hN2 := hN (A2, x1, hnt s) ⟨(show PS a b A2 A2 from .refl), hx1.1, hx1.2⟩
    dsimp only at hN2
    exact Run.of hN2 ⟨rfl, rfl, rfl, rfl, rfl, rfl, rfl, rfl, rfl, trivial⟩ ⟨rfl, rfl, trivial⟩
  rintro ⟨A3, x, ht⟩ ⟨hA3, hxa, hxb⟩
  dsimp only at hA3 hxa hxb ⊢
  have hps3 := up hps2 hA3
  have hlow3 := hlow2.keep hA3
  have hgd3 := hgd2.keep hA3
  have hAl3 : A3.length = n := by rw [hps3.len, hn]
  clear hps2 hlow2 hgd2 hAl2 hA3 hcp hx1 x1 s A2
  repeat (refine Run.go rfl ?_)
  refine Run.regTo ⟨[(0, .vec lid 0 n), (1, i64 (a : Nat)), (2, i64 (b : Nat)), (3, i64 k2), (8, bo β1), (9, bo β2), (10, i64 (IntKind.i64.wrap ((b : Nat) - (a : Nat) : Int))), (11, i64 (x : Nat)), (68, bo (β1 && β2 && (ht == 1)))], [(lid, .vec 1 e (A3.map i64)), (lidT, .tie v0 lid)]⟩ (fun k' hN => ?_) ?_
  · refine Run.bool 62 rfl (fun h1 => ?_) (fun h1 => ?_)
    · repeat (refine Run.go rfl ?_)
      refine Run.bool 65 rfl (fun h2 => ?_) (fun h2 => ?_)
      · repeat (refine Run.go rfl ?_)
        refine Run.of hN ⟨rfl, rfl, rfl, rfl, ?_, ?_, rfl, rfl, ?_, trivial⟩ ⟨rfl, rfl, trivial⟩
        · rfl
        · rfl
        · rw [h1, h2]; rfl
      · repeat (refine Run.go rfl ?_)
        refine Run.of hN ⟨rfl, rfl, rfl, rfl, ?_, ?_, rfl, rfl, ?_, trivial⟩ ⟨rfl, rfl, trivial⟩
        · rfl
        · rfl
        · rw [h1, h2]; rfl
    · repeat (refine Run.go rfl ?_)
      refine Run.of hN ⟨rfl, rfl, rfl, rfl, rfl, rfl, rfl, rfl, ?_, trivial⟩ ⟨rfl, rfl, trivial⟩
      rw [h1]; rfl
  refine Run.condJE (fun A : List Int => PS a b A3 A) (fun A => ⟨[(0, .vec lid 0 n), (1, i64 (a : Nat)), (2, i64 (b : Nat)), (3, i64 k2), (8, bo β1), (9, bo β2), (10, i64 (IntKind.i64.wrap ((b : Nat) - (a : Nat) : Int))), (11, i64 (x : Nat))], [(lid, .vec 1 e (A.map i64)), (lidT, .tie v0 lid)]⟩)
    rfl (fun hc k' hN => ?_) (fun hc k' hN => ?_) ?_
  · repeat (refine Run.go rfl ?_)
    refine Run.callE lid rfl rfl rfl rfl rfl rfl rfl rfl (pins_ct n A3 e a b hAl3 (by omega) (by omega) (by omega) hlow3) rfl rfl fun r hr => ?_
    obtain ⟨B, t⟩ := r
    obtain ⟨hB1, hB2⟩ := hr
    dsimp only at hB1 hB2 ⊢
    repeat (refine Run.go rfl ?_)
    refine Run.cond rfl (fun hc => ?_) (fun hc => ?_)
    · repeat (refine Run.go rfl ?_)
      exact Run.retE B ⟨up hps3 hB1, hgd3 B hB1 (hB2 hc)⟩ hg rfl rfl rfl rfl rfl rfl
    · repeat (refine Run.go rfl ?_)
      have hN2 := hN B hB1
      exact Run.of hN2 ⟨rfl, rfl, rfl, rfl, rfl, rfl, rfl, rfl, trivial⟩ ⟨rfl, rfl, trivial⟩
  · repeat (refine Run.go rfl ?_)
    have hN2 := hN A3 .refl
    exact Run.of hN2 ⟨rfl, rfl, rfl, rfl, rfl, rfl, rfl, rfl, trivial⟩ ⟨rfl, rfl, trivial⟩
  intro A hA
  have hps := up hps3 hA
  have hlow := hlow3.keep hA
  have hgd := hgd3.keep hA
  have hAl : A.length = n := by rw [hps.len, hn]
  clear hps3 hlow3 hgd3 hAl3 hA A3
  repeat (refine Run.go rfl ?_)
  refine Run.drawS ⟨[(0, .vec lid 0 n), (1, i64 (a : Nat)), (2, i64 (b : Nat)), (3, i64 k2), (8, bo β1), (9, bo β2), (10, i64 (IntKind.i64.wrap ((b : Nat) - (a : Nat) : Int))), (11, i64 (x : Nat)), (87, bo (decide (0 < a) && !decide (A.getD (a - 1) 0 < A.getD (x) 0)))], [(lid, .vec 1 e (A.map i64)), (lidT, .tie v0 lid)]⟩ rfl (by kernel_rfl) ?_ ?_
  · have := hn1
    refine Quiet.go rfl ?_
    refine Quiet.go rfl ?_
    refine Quiet.go rfl ?_
    refine Quiet.bool 75 rfl (fun h => ?_) (fun h => ?_)
    · have h0 : 0 < a := by have := of_decide_eq_true h; omega
      refine Quiet.go rfl ?_
      refine Quiet.go rfl ?_
      refine Quiet.go rfl ?_
      rw [wZ h0 (by omega)]
      refine Quiet.val rfl rfl (ValOk.idxv rfl rfl rfl rfl rfl rfl (by omega) (by omega)) rfl ?_
      refine Quiet.val rfl rfl (ValOk.loadv (i64 (A.getD (a - 1) 0)) rfl rfl rfl rfl (iat (by omega)) rfl) rfl ?_
      refine Quiet.go rfl ?_
      refine Quiet.go rfl ?_
      refine Quiet.val rfl rfl (ValOk.idxv rfl rfl rfl rfl rfl rfl (by omega) (by omega)) rfl ?_
      refine Quiet.val rfl rfl (ValOk.loadv (i64 (A.getD (x) 0)) rfl rfl rfl rfl (iat (by omega)) rfl) rfl ?_
      refine Quiet.cs rfl rfl rfl rfl rfl (lessI_ct (A.getD (a - 1) 0) (A.getD (x) 0)) rfl rfl ?_
      refine Quiet.go rfl ?_
      refine Quiet.go rfl ?_
      refine Quiet.nil (St.Le.mk' ⟨rfl, rfl, rfl, rfl, rfl, rfl, rfl, rfl, ?_, trivial⟩ ⟨rfl, rfl, trivial⟩)
      show bo (!decide (A.getD (a - 1) 0 < A.getD (x) 0)) = _
      rw [decide_eq_true h0, Bool.true_and]
    · have h0 : ¬ (0 < a) := by have := of_decide_eq_false h; omega
      repeat (refine Quiet.go rfl ?_)
      refine Quiet.nil (St.Le.mk' ⟨rfl, rfl, rfl, rfl, rfl, rfl, rfl, rfl, ?_, trivial⟩ ⟨rfl, rfl, trivial⟩)
      show bo false = _
      rw [decide_eq_false h0, Bool.false_and]
  refine Run.cond rfl (fun hc => ?_) (fun hc => ?_)
  · have hc : 0 < a ∧ ¬ A.getD (a - 1) 0 < A.getD x 0 := by simpa using hc
    repeat (refine Run.go rfl ?_)
    refine Run.callE lid rfl rfl rfl rfl rfl rfl rfl rfl (pequal_ct n A e a b x hAl (by omega) hxa hxb (by omega)) rfl rfl fun r hr => ?_
    obtain ⟨B, q⟩ := r
    obtain ⟨hB1, hB2, hB3, _, hB5⟩ := hr
    dsimp only at hB1 hB2 hB3 hB5 ⊢
    obtain ⟨g1, g2⟩ := equal_ok hgd hlow hc.1 hxa hxb (by omega) hc.2 hB1 hB2 hB3 hB5
    repeat (refine Run.go rfl ?_)
    exact Run.of (IH (q, b, k2, β1, β2, B) ⟨by show a0 ≤ q; omega, hB3, hbb, up hps hB1, g1, g2⟩ (by show b - q < b - a; omega)) ⟨rfl, rfl, rfl, rfl, rfl, rfl, trivial⟩ ⟨rfl, rfl, trivial⟩
  clear hc
  repeat (refine Run.go rfl ?_)
  refine Run.callE lid rfl rfl rfl rfl rfl rfl rfl rfl (part_ct n A e a b x hAl (by omega) hxa hxb (by omega)) rfl rfl fun r hr => ?_
  obtain ⟨B, q, t⟩ := r
  obtain ⟨hB1, hB2, hB3, hpt⟩ := hr
  dsimp only at hB1 hB2 hB3 hpt ⊢
  have hpsB := up hps hB1
  have hlowB := hlow.keep hB1
  have hgdB := hgd.keep hB1
  have hBl : B.length = n := by rw [hpsB.len, hn]
  clear hps hlow hgd hAl hB1
  have hwq := wI1 (i := q) (by omega)
  repeat (refine Run.go rfl ?_)
  refine Run.cond rfl (fun hc => ?_) (fun hc => ?_)
  · repeat (refine Run.go rfl ?_)
    refine Run.callE lid rfl rfl rfl rfl rfl rfl rfl rfl (IHm (q - a) (by omega) B a q k2 hBl (by omega) (by omega) (low_sub hlowB (by omega))) rfl rfl fun C hC => ?_
    have hCps : PS a0 b0 A0 C := hpsB.trans (hC.1.mono (by omega) (by omega) (by omega))
    have hlr := low_right hB3 hpt hC.1
    have hgl := good_left hgdB hB2 hB3 (by omega) hpt hC.1 hC.2
    repeat (refine Run.go rfl ?_)
    refine Run.of (IH (q + 1, b, k2, _, t, C) ⟨by show a0 ≤ q + 1; omega, by show q + 1 ≤ b; omega, hbb, hCps, hlr, hgl⟩ (by show b - (q + 1) < b - a; omega)) ⟨rfl, ?_, rfl, rfl, rfl, rfl, trivial⟩ ⟨rfl, rfl, trivial⟩
    show i64 _ = i64 _
    rw [hwq]
  · repeat (refine Run.go rfl ?_)
    rw [hwq]
    refine Run.callE lid rfl rfl rfl rfl rfl rfl rfl rfl (IHm (b - (q + 1)) (by omega) B (q + 1) b k2 hBl (by omega) (by omega) (low_right hB3 hpt .refl)) rfl rfl fun C hC => ?_
    have hCps : PS a0 b0 A0 C := hpsB.trans (hC.1.mono (by omega) (by omega) (by omega))
    have hlr := low_left hlowB hB3 hC.1 hB2
    have hgl := good_right hgdB hB2 hB3 (by omega) hpt hC.1 hC.2
    repeat (refine Run.go rfl ?_)
    exact Run.of (IH (a, q, k2, _, t, C) ⟨haa, by show a ≤ q; omega, by show q ≤ b0; omega, hCps, hlr, hgl⟩ (by show q - a < b - a; omega)) ⟨rfl, rfl, rfl, rfl, rfl, rfl, trivial⟩ ⟨rfl, rfl, trivial⟩

noncomputable def X30 : Fx := ⟨Try.prog, tys, 30, Try.f30, [0]⟩
theorem X30_ok : X30.Ok := ⟨Try.func30, tys_ok⟩
theorem sort64_ct (l : List Int) (e : Bool) (hl : l.length ≤ 60) : CtG Try.prog 30 [.vec lid 0 (l.map i64).length] (.vec 1 e (l.map i64)) (.tup []) (.vec 1 e ((srtI l).map i64)) := by
  have hml : ((l.map i64).length : Nat) = l.length := List.length_map ..
  rw [hml]
  refine CtG.intro X30 X30_ok rfl (by kernel_rfl) rfl rfl rfl rfl rfl fun g v0 hg => ?_
  repeat (refine Run.go rfl ?_)
  rw [wU64 (by omega)]
  refine Run.cs rfl (bitsLen_ct l.length hl) rfl rfl ?_
  repeat (refine Run.go rfl ?_)
  refine Run.callE lid rfl rfl rfl rfl rfl rfl rfl rfl (pdq_ct l.length e hl l.length l 0 l.length (lenN l.length) rfl (by omega) (Nat.le_refl _) (.inl rfl)) rfl rfl fun B hB => ?_
  have hBl : B = srtI l := srtI_eq hB.1.perm (by
    have h2 := hB.2
    rw [← hB.1.len] at h2
    exact h2.all)
  subst hBl
  repeat (refine Run.go rfl ?_)
  exact Run.finG hg rfl rfl rfl rfl rfl rfl
end Go.Proofs.Ytcfkdcjindhnjaa
