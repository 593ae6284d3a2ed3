/- Contracts of the program's functions, and what follows from them. -/
import Derived.Test.YtcfkdcjindhnjaaK57
set_option linter.unusedVariables false
set_option maxRecDepth 100000
set_option linter.unusedSimpArgs false
namespace Go.Proofs.Ytcfkdcjindhnjaa
open Go Go.Av

/-! A part of a list of numbers is stirred; its pivot is chosen. -/

theorem wM {a b c : Nat} (h : a = b + c) (h2 : a ≤ 100000) : IntKind.i64.wrap (((a : Nat) : Int) - ((b : Nat) : Int)) = ((c : Nat) : Int) := by rw [wrap_i64 (by omega) (by omega)]; omega
theorem wQ {h : Nat} (hh : h ≤ 100000) : IntKind.i64.wrap (Int.tdiv ((h : Nat) : Int) 4) = ((h / 4 : Nat) : Int) := by
  rw [Int.tdiv_eq_ediv_of_nonneg (by omega), wrap_i64 (by omega) (by omega)]
  omega
theorem wT {a b : Nat} (h : a * b ≤ 100000) : IntKind.i64.wrap (((a : Nat) : Int) * ((b : Nat) : Int)) = ((a * b : Nat) : Int) := by
  rw [← Int.natCast_mul, wrap_i64 (by omega) (by omega)]

noncomputable def X42 : Fx := ⟨Try.prog, tys, 42, Try.f42, [0, 1, 2]⟩
theorem X42_ok : X42.Ok := ⟨Try.func42, tys_ok⟩
set_option maxHeartbeats 4000000 in
theorem bpat_ct (n : Nat) (A0 : List Int) (e : Bool) (a b : Nat) (hn : A0.length = n) (hn1 : n ≤ 60) (hab : a + 8 ≤ b) (hb : b ≤ n) :
    CtE Try.prog 42 [.vec lid 0 n, i64 (a : Nat), i64 (b : Nat)] (.vec 1 e (A0.map i64)) (fun B : List Int => PS a b A0 B) (fun _ => .tup []) (fun B => .vec 1 e (B.map i64)) := by
  refine CtE.intro X42 X42_ok rfl (by kernel_rfl) rfl rfl (fun _ _ => rfl) (fun _ _ => rfl) rfl fun g v0 hg => ?_
  obtain ⟨h, hh⟩ : ∃ h, b = a + h := ⟨b - a, by omega⟩
  have hw0 := wM (a := b) (b := a) (c := h) hh (by omega)
  have hwq := wQ (h := h) (by omega)
  have hwt : IntKind.i64.wrap (((h / 4 : Nat) : Int) * 2) = ((h / 4 * 2 : Nat) : Int) := wT (a := h / 4) (b := 2) (by omega)
  have hws := wS (a := a) (b := h / 4 * 2) (by omega) (by omega)
  obtain ⟨hP1, hP2⟩ := p2_ok h (by omega) (by omega)
  repeat (refine Run.go rfl ?_)
  refine Run.cond rfl (fun hc => ?_) (fun hc => ?_)
  rotate_left
  · have hc : decide ((8 : Int) ≤ IntKind.i64.wrap ((b : Nat) - (a : Nat) : Int)) = false := hc
    rw [hw0] at hc
    have := of_decide_eq_false hc
    omega
  clear hc
  repeat (refine Run.go rfl ?_)
  rw [hw0]
  refine Run.cs rfl (npow_ct h (by omega)) rfl rfl ?_
  repeat (refine Run.go rfl ?_)
  obtain ⟨s0, hs0⟩ : ∃ s0, a + h / 4 * 2 = s0 + 1 := ⟨a + h / 4 * 2 - 1, by omega⟩
  have hwd := wD1 (q := s0) (by omega)
  have hwi := wI1 (i := a + h / 4 * 2) (by omega)
  refine Run.loop (fun z : Nat × List Int × Int => ⟨[(0, .vec lid 0 n), (1, i64 (a : Nat)), (2, i64 (b : Nat)), (6, i64 (h : Nat)), (7, .bp (7, 0) 0), (8, u64L (p2 h)), (9, i64 (s0 + z.1 : Nat))], [(lid, .vec 1 e (z.2.1.map i64)), (lidT, .tie v0 lid), ((7, 0), .box [u64L z.2.2])]⟩)
    (fun z => z.1 ≤ 3 ∧ PS a b A0 z.2.1) (fun z => 3 - z.1) (0, A0, IntKind.u64.wrap (h : Nat)) ⟨by show 0 ≤ 3; omega, .refl⟩ ?_ ?_
  · refine St.Le.mk' ⟨rfl, rfl, rfl, rfl, rfl, rfl, ?_, trivial⟩ ⟨rfl, rfl, rfl, trivial⟩
    show i64 _ = i64 _
    rw [hwq, hwt, hws, hs0, hwd]
    rfl
  rintro ⟨k, A, r⟩ ⟨hk, hps⟩ IH
  dsimp only at hk hps IH ⊢
  have hAl : A.length = n := by rw [hps.len, hn]
  repeat (refine Run.go rfl ?_)
  refine Run.cond rfl (fun hc => ?_) (fun hc => ?_)
  rotate_left
  · repeat (refine Run.go rfl ?_)
    exact Run.finE A hps hg rfl rfl rfl rfl rfl rfl
  have hk2 : k ≤ 2 := by
    have hc : decide (((s0 + k : Nat) : Int) ≤ IntKind.i64.wrap (IntKind.i64.wrap ((a : Nat) + IntKind.i64.wrap (IntKind.i64.wrap (Int.tdiv ((h : Nat) : Int) 4) * 2) : Int) + 1)) = true := hc
    rw [hwq, hwt, hws, hwi] at hc
    have := of_decide_eq_true hc
    omega
  clear hc
  obtain ⟨i, hi⟩ : ∃ i, s0 + k = i := ⟨_, rfl⟩
  have hia : a ≤ i ∧ i < b := by omega
  have IHi := fun A r => IH (k + 1, A, r)
  rw [hi]
  have hi2 : s0 + (k + 1) = i + 1 := by omega
  simp only [hi2] at IHi
  repeat (refine Run.go rfl ?_)
  obtain ⟨r', hnx⟩ := next64_ct r
  refine Run.callG (7, 0) rfl rfl rfl rfl rfl rfl rfl rfl hnx rfl rfl ?_
  unfold u64L
  repeat (refine Run.go rfl ?_)
  refine Run.val rfl rfl rfl (ValOk.land rfl rfl rfl) rfl ?_
  repeat (refine Run.go rfl ?_)
  have hwP : IntKind.u64.wrap (p2 h - 1) = p2 h - 1 := by
    obtain ⟨q, hq⟩ : ∃ q : Nat, p2 h - 1 = (q : Int) := ⟨(p2 h - 1).toNat, by omega⟩
    rw [hq, wU64 (by omega)]
  have hrng := land_rng r' (IntKind.u64.wrap (p2 h - 1)) (by rw [hwP]; omega)
  rw [hwP] at hrng
  obtain ⟨o, ho⟩ : ∃ o : Nat, IntKind.i64.wrap (IntKind.u64.wrap (BitVec.ofInt IntKind.u64.bits r' &&& BitVec.ofInt IntKind.u64.bits (p2 h - 1)).toNat) = (o : Int) := ⟨_, (Int.toNat_of_nonneg hrng.1).symm⟩
  rw [ho] at hrng
  refine Run.of (st' := ⟨[(0, .vec lid 0 n), (1, i64 (a : Nat)), (2, i64 (b : Nat)), (6, i64 (h : Nat)), (7, .bp (7, 0) 0), (8, u64L (p2 h)), (9, i64 (i : Nat)), (10, i64 (o : Nat)), (43, bo (decide (((o : Nat) : Int) ≥ ((h : Nat) : Int))))], [(lid, .vec 1 e (A.map i64)), (lidT, .tie v0 lid), ((7, 0), .box [u64L r'])]⟩) ?_ ⟨rfl, rfl, rfl, rfl, rfl, rfl, rfl, ?_, ?_, trivial⟩ ⟨rfl, rfl, rfl, trivial⟩
  rotate_left
  · show i64 (IntKind.i64.wrap (IntKind.u64.wrap (BitVec.ofInt IntKind.u64.bits r' &&& BitVec.ofInt IntKind.u64.bits (IntKind.u64.wrap (p2 h - 1))).toNat)) = _
    rw [hwP, ho]
  · show bo (decide (IntKind.i64.wrap (IntKind.u64.wrap (BitVec.ofInt IntKind.u64.bits r' &&& BitVec.ofInt IntKind.u64.bits (IntKind.u64.wrap (p2 h - 1))).toNat) ≥ _)) = _
    rw [hwP, ho]
  unfold Nxt
  obtain ⟨d, hd⟩ : ∃ d, d = if h ≤ o then o - h else o := ⟨_, rfl⟩
  have hdh : d < h := by rw [hd]; split <;> omega
  refine Run.condJ ⟨[(0, .vec lid 0 n), (1, i64 (a : Nat)), (2, i64 (b : Nat)), (6, i64 (h : Nat)), (7, .bp (7, 0) 0), (8, u64L (p2 h)), (9, i64 (i : Nat)), (10, i64 (d : Nat))], [(lid, .vec 1 e (A.map i64)), (lidT, .tie v0 lid), ((7, 0), .box [u64L r'])]⟩ rfl (fun hc k' hN => ?_) (fun hc k' hN => ?_) ?_
  · have hoh : h ≤ o := by have := of_decide_eq_true hc; omega
    rw [if_pos hoh] at hd
    repeat (refine Run.go rfl ?_)
    refine Run.of hN ⟨rfl, rfl, rfl, rfl, rfl, rfl, rfl, ?_, trivial⟩ ⟨rfl, rfl, rfl, trivial⟩
    show i64 _ = i64 _
    rw [wM (c := d) (by omega) (by omega)]
  · have hoh : ¬ h ≤ o := by have := of_decide_eq_false hc; omega
    rw [if_neg hoh] at hd
    repeat (refine Run.go rfl ?_)
    refine Run.of hN ⟨rfl, rfl, rfl, rfl, rfl, rfl, rfl, ?_, trivial⟩ ⟨rfl, rfl, rfl, trivial⟩
    show i64 _ = i64 _
    rw [hd]
  have hwad := wS (a := a) (b := d) (by omega) (by omega)
  repeat (refine Run.go rfl ?_)
  have hyi := iat (A := A) (i := i) (by omega)
  have hyj := iat (A := A) (i := a + d) (by omega)
  have hyj2 := iat2 (A := A) (i := i) (j := a + d) (by omega) (by omega)
  refine Run.of (st' := ⟨[(0, .vec lid 0 n), (1, i64 (a : Nat)), (2, i64 (b : Nat)), (6, i64 (h : Nat)), (7, .bp (7, 0) 0), (8, u64L (p2 h)), (9, i64 (i : Nat)), (10, i64 (d : Nat))], [(lid, .vec 1 e (A.map i64)), (lidT, .tie v0 lid), ((7, 0), Ob.box [u64L r'])]⟩) ?_ ⟨rfl, rfl, rfl, rfl, rfl, rfl, rfl, rfl, trivial⟩ ⟨rfl, rfl, rfl, trivial⟩
  unfold Nxt
  refine Run.drawI (fun D => ⟨[(0, .vec lid 0 n), (1, i64 (a : Nat)), (2, i64 (b : Nat)), (6, i64 (h : Nat)), (7, .bp (7, 0) 0), (8, u64L (p2 h)), (9, i64 (i : Nat)), (10, i64 (d : Nat)), (47, bif D 0 then .vec lid 0 n else .top), (48, bif D 1 then i64 ((i : Nat) : Int) else .top), (49, bif D 2 then .vec lid 0 n else .top), (50, bif D 3 then i64 ((a : Nat) : Int) else .top), (51, bif D 4 then i64 ((d : Nat) : Int) else .top), (52, bif D 5 then i64 ((a + d : Nat) : Int) else .top), (53, bif D 6 then .vec lid 0 n else .top), (54, bif D 7 then i64 ((a : Nat) : Int) else .top), (55, bif D 8 then i64 ((d : Nat) : Int) else .top), (56, bif D 9 then i64 ((a + d : Nat) : Int) else .top), (57, bif D 10 then .ep lid (0 + ((a + d : Nat) : Int).toNat) 0 else .top), (58, bif D 11 then i64 (A.getD (a + d) 0) else .top), (59, bif D 12 then .vec lid 0 n else .top), (60, bif D 13 then i64 ((i : Nat) : Int) else .top), (61, bif D 14 then .ep lid (0 + ((i : Nat) : Int).toNat) 0 else .top), (62, bif D 15 then i64 (A.getD (i) 0) else .top), (63, bif D 16 then .ep lid (0 + ((i : Nat) : Int).toNat) 0 else .top), (64, bif D 18 then .ep lid (0 + ((a + d : Nat) : Int).toNat) 0 else .top)], [(lid, (bif D 19 then Ob.vec 1 e (((A.map i64).set (0 + ((i : Nat) : Int).toNat) (i64 (A.getD (a + d) 0))).set (0 + ((a + d : Nat) : Int).toNat) (i64 (A.getD (i) 0))) else (bif D 17 then Ob.vec 1 e ((A.map i64).set (0 + ((i : Nat) : Int).toNat) (i64 (A.getD (a + d) 0))) else Ob.vec 1 e (A.map i64)))), (lidT, Ob.tie v0 lid), ((7, 0), Ob.box [u64L r'])]⟩) (by decide +kernel) (by decide +kernel) ?_ ?_ fun k' => ⟨?_, ?_, ?_, ?_, ?_, ?_, ?_, ?_, ?_, ?_, ?_, ?_, ?_, ?_, ?_, ?_, ?_, ?_, ?_, ?_, trivial⟩
  · exact St.Le.mk' ⟨rfl, rfl, rfl, rfl, rfl, rfl, rfl, rfl, rfl, rfl, rfl, rfl, rfl, rfl, rfl, rfl, rfl, rfl, rfl, rfl, rfl, rfl, rfl, rfl, rfl, rfl, trivial⟩ ⟨rfl, rfl, rfl, trivial⟩
  rotate_left
  · intro D hid h0 hp hs rest hK
    obtain ⟨d16, d17, d18, d19, -⟩ : AllD D false [16, 17, 18, 19] := ideal_sub hs (by decide +kernel)
    simp only [d16, d17, d18, d19, h0, cond_true, cond_false]
    refine Run.go rfl ?_
    refine Run.le ?_ hK
    simp only [d16, d17, d18, d19, h0, Nat.reduceBEq, Bool.false_or, Bool.true_or, cond_true, cond_false]
    exact St.Le.mk' ⟨rfl, rfl, rfl, rfl, rfl, rfl, rfl, rfl, rfl, rfl, rfl, rfl, rfl, rfl, rfl, rfl, rfl, rfl, rfl, rfl, rfl, rfl, rfl, rfl, rfl, rfl, trivial⟩ ⟨rfl, rfl, rfl, trivial⟩
  · intro D hid h0 hp hs rest hK
    obtain ⟨d16, d17, d18, d19, -⟩ : AllD D false [16, 17, 18, 19] := ideal_sub hs (by decide +kernel)
    simp only [d16, d17, d18, d19, h0, cond_true, cond_false]
    refine Run.go rfl ?_
    refine Run.le ?_ hK
    simp only [d16, d17, d18, d19, h0, Nat.reduceBEq, Bool.false_or, Bool.true_or, cond_true, cond_false]
    exact St.Le.mk' ⟨rfl, rfl, rfl, rfl, rfl, rfl, rfl, rfl, rfl, rfl, rfl, rfl, rfl, rfl, rfl, rfl, rfl, rfl, rfl, rfl, rfl, rfl, rfl, rfl, rfl, rfl, trivial⟩ ⟨rfl, rfl, rfl, trivial⟩
  · intro D hid h0 hp hs rest hK
    obtain ⟨d18, d19, -⟩ : AllD D false [18, 19] := ideal_sub hs (by decide +kernel)
    simp only [d18, d19, h0, cond_true, cond_false]
    refine Run.go rfl ?_
    refine Run.le ?_ hK
    simp only [d18, d19, h0, Nat.reduceBEq, Bool.false_or, Bool.true_or, cond_true, cond_false]
    exact St.Le.mk' ⟨rfl, rfl, rfl, rfl, rfl, rfl, rfl, rfl, rfl, rfl, rfl, rfl, rfl, rfl, rfl, rfl, rfl, rfl, rfl, rfl, rfl, rfl, rfl, rfl, rfl, rfl, trivial⟩ ⟨rfl, rfl, rfl, trivial⟩
  · intro D hid h0 hp hs rest hK
    obtain ⟨d5, d18, d19, -⟩ : AllD D false [5, 18, 19] := ideal_sub hs (by decide +kernel)
    simp only [d5, d18, d19, h0, cond_true, cond_false]
    refine Run.go rfl ?_
    refine Run.le ?_ hK
    simp only [d5, d18, d19, h0, Nat.reduceBEq, Bool.false_or, Bool.true_or, cond_true, cond_false]
    exact St.Le.mk' ⟨rfl, rfl, rfl, rfl, rfl, rfl, rfl, rfl, rfl, rfl, rfl, rfl, rfl, rfl, rfl, rfl, rfl, rfl, rfl, rfl, rfl, rfl, rfl, rfl, rfl, rfl, trivial⟩ ⟨rfl, rfl, rfl, trivial⟩
  · intro D hid h0 hp hs rest hK
    obtain ⟨d5, d18, d19, -⟩ : AllD D false [5, 18, 19] := ideal_sub hs (by decide +kernel)
    simp only [d5, d18, d19, h0, cond_true, cond_false]
    refine Run.go rfl ?_
    refine Run.le ?_ hK
    simp only [d5, d18, d19, h0, Nat.reduceBEq, Bool.false_or, Bool.true_or, cond_true, cond_false]
    exact St.Le.mk' ⟨rfl, rfl, rfl, rfl, rfl, rfl, rfl, rfl, rfl, rfl, rfl, rfl, rfl, rfl, rfl, rfl, rfl, rfl, rfl, rfl, rfl, rfl, rfl, rfl, rfl, rfl, trivial⟩ ⟨rfl, rfl, rfl, trivial⟩
  · intro D hid h0 hp hs rest hK
    obtain ⟨d3, d4, -⟩ : AllD D true [3, 4] := ideal_sub hp (by decide +kernel)
    obtain ⟨d18, d19, -⟩ : AllD D false [18, 19] := ideal_sub hs (by decide +kernel)
    simp only [d3, d4, d18, d19, h0, cond_true, cond_false]
    refine Run.go rfl ?_
    rw [hwad]
    refine Run.le ?_ hK
    simp only [d3, d4, d18, d19, h0, Nat.reduceBEq, Bool.false_or, Bool.true_or, cond_true, cond_false]
    exact St.Le.mk' ⟨rfl, rfl, rfl, rfl, rfl, rfl, rfl, rfl, rfl, rfl, rfl, rfl, rfl, rfl, rfl, rfl, rfl, rfl, rfl, rfl, rfl, rfl, rfl, rfl, rfl, rfl, trivial⟩ ⟨rfl, rfl, rfl, trivial⟩
  · intro D hid h0 hp hs rest hK
    obtain ⟨d10, d16, d17, d18, d19, -⟩ : AllD D false [10, 16, 17, 18, 19] := ideal_sub hs (by decide +kernel)
    simp only [d10, d16, d17, d18, d19, h0, cond_true, cond_false]
    refine Run.go rfl ?_
    refine Run.le ?_ hK
    simp only [d10, d16, d17, d18, d19, h0, Nat.reduceBEq, Bool.false_or, Bool.true_or, cond_true, cond_false]
    exact St.Le.mk' ⟨rfl, rfl, rfl, rfl, rfl, rfl, rfl, rfl, rfl, rfl, rfl, rfl, rfl, rfl, rfl, rfl, rfl, rfl, rfl, rfl, rfl, rfl, rfl, rfl, rfl, rfl, trivial⟩ ⟨rfl, rfl, rfl, trivial⟩
  · intro D hid h0 hp hs rest hK
    obtain ⟨d9, d16, d17, d18, d19, -⟩ : AllD D false [9, 16, 17, 18, 19] := ideal_sub hs (by decide +kernel)
    simp only [d9, d16, d17, d18, d19, h0, cond_true, cond_false]
    refine Run.go rfl ?_
    refine Run.le ?_ hK
    simp only [d9, d16, d17, d18, d19, h0, Nat.reduceBEq, Bool.false_or, Bool.true_or, cond_true, cond_false]
    exact St.Le.mk' ⟨rfl, rfl, rfl, rfl, rfl, rfl, rfl, rfl, rfl, rfl, rfl, rfl, rfl, rfl, rfl, rfl, rfl, rfl, rfl, rfl, rfl, rfl, rfl, rfl, rfl, rfl, trivial⟩ ⟨rfl, rfl, rfl, trivial⟩
  · intro D hid h0 hp hs rest hK
    obtain ⟨d9, d16, d17, d18, d19, -⟩ : AllD D false [9, 16, 17, 18, 19] := ideal_sub hs (by decide +kernel)
    simp only [d9, d16, d17, d18, d19, h0, cond_true, cond_false]
    refine Run.go rfl ?_
    refine Run.le ?_ hK
    simp only [d9, d16, d17, d18, d19, h0, Nat.reduceBEq, Bool.false_or, Bool.true_or, cond_true, cond_false]
    exact St.Le.mk' ⟨rfl, rfl, rfl, rfl, rfl, rfl, rfl, rfl, rfl, rfl, rfl, rfl, rfl, rfl, rfl, rfl, rfl, rfl, rfl, rfl, rfl, rfl, rfl, rfl, rfl, rfl, trivial⟩ ⟨rfl, rfl, rfl, trivial⟩
  · intro D hid h0 hp hs rest hK
    obtain ⟨d7, d8, -⟩ : AllD D true [7, 8] := ideal_sub hp (by decide +kernel)
    obtain ⟨d10, d16, d17, d18, d19, -⟩ : AllD D false [10, 16, 17, 18, 19] := ideal_sub hs (by decide +kernel)
    simp only [d7, d8, d10, d16, d17, d18, d19, h0, cond_true, cond_false]
    refine Run.go rfl ?_
    rw [hwad]
    refine Run.le ?_ hK
    simp only [d7, d8, d10, d16, d17, d18, d19, h0, Nat.reduceBEq, Bool.false_or, Bool.true_or, cond_true, cond_false]
    exact St.Le.mk' ⟨rfl, rfl, rfl, rfl, rfl, rfl, rfl, rfl, rfl, rfl, rfl, rfl, rfl, rfl, rfl, rfl, rfl, rfl, rfl, rfl, rfl, rfl, rfl, rfl, rfl, rfl, trivial⟩ ⟨rfl, rfl, rfl, trivial⟩
  · intro D hid h0 hp hs rest hK
    obtain ⟨d6, d9, -⟩ : AllD D true [6, 9] := ideal_sub hp (by decide +kernel)
    obtain ⟨d11, d16, d17, d18, d19, -⟩ : AllD D false [11, 16, 17, 18, 19] := ideal_sub hs (by decide +kernel)
    simp only [d6, d9, d11, d16, d17, d18, d19, h0, cond_true, cond_false]
    refine Run.val rfl rfl rfl (ValOk.idxv rfl rfl rfl rfl rfl rfl (by omega) (by omega)) rfl ?_
    refine Run.le ?_ hK
    simp only [d6, d9, d11, d16, d17, d18, d19, h0, Nat.reduceBEq, Bool.false_or, Bool.true_or, cond_true, cond_false]
    exact St.Le.mk' ⟨rfl, rfl, rfl, rfl, rfl, rfl, rfl, rfl, rfl, rfl, rfl, rfl, rfl, rfl, rfl, rfl, rfl, rfl, rfl, rfl, rfl, rfl, rfl, rfl, rfl, rfl, trivial⟩ ⟨rfl, rfl, rfl, trivial⟩
  · intro D hid h0 hp hs rest hK
    obtain ⟨d10, -⟩ : AllD D true [10] := ideal_sub hp (by decide +kernel)
    obtain ⟨d16, d17, d18, d19, -⟩ : AllD D false [16, 17, 18, 19] := ideal_sub hs (by decide +kernel)
    simp only [d10, d16, d17, d18, d19, h0, cond_true, cond_false]
    refine Run.val rfl rfl rfl (ValOk.loadv (i64 (A.getD (a + d) 0)) rfl rfl rfl rfl hyj rfl) rfl ?_
    refine Run.le ?_ hK
    simp only [d10, d16, d17, d18, d19, h0, Nat.reduceBEq, Bool.false_or, Bool.true_or, cond_true, cond_false]
    exact St.Le.mk' ⟨rfl, rfl, rfl, rfl, rfl, rfl, rfl, rfl, rfl, rfl, rfl, rfl, rfl, rfl, rfl, rfl, rfl, rfl, rfl, rfl, rfl, rfl, rfl, rfl, rfl, rfl, trivial⟩ ⟨rfl, rfl, rfl, trivial⟩
  · intro D hid h0 hp hs rest hK
    obtain ⟨d14, d18, d19, -⟩ : AllD D false [14, 18, 19] := ideal_sub hs (by decide +kernel)
    simp only [d14, d18, d19, h0, cond_true, cond_false]
    refine Run.go rfl ?_
    refine Run.le ?_ hK
    simp only [d14, d18, d19, h0, Nat.reduceBEq, Bool.false_or, Bool.true_or, cond_true, cond_false]
    exact St.Le.mk' ⟨rfl, rfl, rfl, rfl, rfl, rfl, rfl, rfl, rfl, rfl, rfl, rfl, rfl, rfl, rfl, rfl, rfl, rfl, rfl, rfl, rfl, rfl, rfl, rfl, rfl, rfl, trivial⟩ ⟨rfl, rfl, rfl, trivial⟩
  · intro D hid h0 hp hs rest hK
    obtain ⟨d14, d18, d19, -⟩ : AllD D false [14, 18, 19] := ideal_sub hs (by decide +kernel)
    simp only [d14, d18, d19, h0, cond_true, cond_false]
    refine Run.go rfl ?_
    refine Run.le ?_ hK
    simp only [d14, d18, d19, h0, Nat.reduceBEq, Bool.false_or, Bool.true_or, cond_true, cond_false]
    exact St.Le.mk' ⟨rfl, rfl, rfl, rfl, rfl, rfl, rfl, rfl, rfl, rfl, rfl, rfl, rfl, rfl, rfl, rfl, rfl, rfl, rfl, rfl, rfl, rfl, rfl, rfl, rfl, rfl, trivial⟩ ⟨rfl, rfl, rfl, trivial⟩
  · intro D hid h0 hp hs rest hK
    obtain ⟨d12, d13, -⟩ : AllD D true [12, 13] := ideal_sub hp (by decide +kernel)
    obtain ⟨d15, d18, d19, -⟩ : AllD D false [15, 18, 19] := ideal_sub hs (by decide +kernel)
    have d17 : D 17 = false := ideal_no (i := 17) (j := 15) hid (by decide +kernel) d15
    simp only [d12, d13, d15, d18, d19, d17, h0, cond_true, cond_false]
    refine Run.val rfl rfl rfl (ValOk.idxv rfl rfl rfl rfl rfl rfl (by omega) (by omega)) rfl ?_
    refine Run.le ?_ hK
    simp only [d12, d13, d15, d18, d19, d17, h0, Nat.reduceBEq, Bool.false_or, Bool.true_or, cond_true, cond_false]
    exact St.Le.mk' ⟨rfl, rfl, rfl, rfl, rfl, rfl, rfl, rfl, rfl, rfl, rfl, rfl, rfl, rfl, rfl, rfl, rfl, rfl, rfl, rfl, rfl, rfl, rfl, rfl, rfl, rfl, trivial⟩ ⟨rfl, rfl, rfl, trivial⟩
  · intro D hid h0 hp hs rest hK
    obtain ⟨d14, -⟩ : AllD D true [14] := ideal_sub hp (by decide +kernel)
    obtain ⟨d16, d17, d18, d19, -⟩ : AllD D false [16, 17, 18, 19] := ideal_sub hs (by decide +kernel)
    simp only [d14, d16, d17, d18, d19, h0, cond_true, cond_false]
    refine Run.val rfl rfl rfl (ValOk.loadv (i64 (A.getD (i) 0)) rfl rfl rfl rfl hyi rfl) rfl ?_
    refine Run.le ?_ hK
    simp only [d14, d16, d17, d18, d19, h0, Nat.reduceBEq, Bool.false_or, Bool.true_or, cond_true, cond_false]
    exact St.Le.mk' ⟨rfl, rfl, rfl, rfl, rfl, rfl, rfl, rfl, rfl, rfl, rfl, rfl, rfl, rfl, rfl, rfl, rfl, rfl, rfl, rfl, rfl, rfl, rfl, rfl, rfl, rfl, trivial⟩ ⟨rfl, rfl, rfl, trivial⟩
  · intro D hid h0 hp hs rest hK
    obtain ⟨d0, d1, d6, d7, d8, d9, d10, d11, d15, -⟩ : AllD D true [0, 1, 6, 7, 8, 9, 10, 11, 15] := ideal_sub hp (by decide +kernel)
    obtain ⟨d17, d18, d19, -⟩ : AllD D false [17, 18, 19] := ideal_sub hs (by decide +kernel)
    simp only [d0, d1, d6, d7, d8, d9, d10, d11, d15, d17, d18, d19, h0, cond_true, cond_false]
    refine Run.val rfl rfl rfl (ValOk.idxv rfl rfl rfl rfl rfl rfl (by omega) (by omega)) rfl ?_
    refine Run.le ?_ hK
    simp only [d0, d1, d6, d7, d8, d9, d10, d11, d15, d17, d18, d19, h0, Nat.reduceBEq, Bool.false_or, Bool.true_or, cond_true, cond_false]
    exact St.Le.mk' ⟨rfl, rfl, rfl, rfl, rfl, rfl, rfl, rfl, rfl, rfl, rfl, rfl, rfl, rfl, rfl, rfl, rfl, rfl, rfl, rfl, rfl, rfl, rfl, rfl, rfl, rfl, trivial⟩ ⟨rfl, rfl, rfl, trivial⟩
  · intro D hid h0 hp hs rest hK
    obtain ⟨d0, d1, d6, d7, d8, d9, d10, d11, d15, d16, -⟩ : AllD D true [0, 1, 6, 7, 8, 9, 10, 11, 15, 16] := ideal_sub hp (by decide +kernel)
    obtain ⟨d18, d19, -⟩ : AllD D false [18, 19] := ideal_sub hs (by decide +kernel)
    simp only [d0, d1, d6, d7, d8, d9, d10, d11, d15, d16, d18, d19, h0, cond_true, cond_false]
    refine Run.storee (i64 (A.getD (i) 0)) (i64 (A.getD (a + d) 0)) rfl rfl rfl rfl rfl rfl rfl hyi rfl rfl rfl ?_
    refine Run.le ?_ hK
    simp only [d0, d1, d6, d7, d8, d9, d10, d11, d15, d16, d18, d19, h0, Nat.reduceBEq, Bool.false_or, Bool.true_or, cond_true, cond_false]
    exact St.Le.mk' ⟨rfl, rfl, rfl, rfl, rfl, rfl, rfl, rfl, rfl, rfl, rfl, rfl, rfl, rfl, rfl, rfl, rfl, rfl, rfl, rfl, rfl, rfl, rfl, rfl, rfl, rfl, trivial⟩ ⟨rfl, rfl, rfl, trivial⟩
  · intro D hid h0 hp hs rest hK
    obtain ⟨d0, d1, d2, d3, d4, d5, d6, d7, d8, d9, d10, d11, d12, d13, d14, d15, d16, d17, -⟩ : AllD D true [0, 1, 2, 3, 4, 5, 6, 7, 8, 9, 10, 11, 12, 13, 14, 15, 16, 17] := ideal_sub hp (by decide +kernel)
    obtain ⟨d19, -⟩ : AllD D false [19] := ideal_sub hs (by decide +kernel)
    simp only [d0, d1, d2, d3, d4, d5, d6, d7, d8, d9, d10, d11, d12, d13, d14, d15, d16, d17, d19, h0, cond_true, cond_false]
    refine Run.val rfl rfl rfl (ValOk.idxv rfl rfl rfl rfl rfl rfl (by omega) (by omega)) rfl ?_
    refine Run.le ?_ hK
    simp only [d0, d1, d2, d3, d4, d5, d6, d7, d8, d9, d10, d11, d12, d13, d14, d15, d16, d17, d19, h0, Nat.reduceBEq, Bool.false_or, Bool.true_or, cond_true, cond_false]
    exact St.Le.mk' ⟨rfl, rfl, rfl, rfl, rfl, rfl, rfl, rfl, rfl, rfl, rfl, rfl, rfl, rfl, rfl, rfl, rfl, rfl, rfl, rfl, rfl, rfl, rfl, rfl, rfl, rfl, trivial⟩ ⟨rfl, rfl, rfl, trivial⟩
  · intro D hid h0 hp hs rest hK
    obtain ⟨d0, d1, d2, d3, d4, d5, d6, d7, d8, d9, d10, d11, d12, d13, d14, d15, d16, d17, d18, -⟩ : AllD D true [0, 1, 2, 3, 4, 5, 6, 7, 8, 9, 10, 11, 12, 13, 14, 15, 16, 17, 18] := ideal_sub hp (by decide +kernel)
    simp only [d0, d1, d2, d3, d4, d5, d6, d7, d8, d9, d10, d11, d12, d13, d14, d15, d16, d17, d18, h0, cond_true, cond_false]
    refine Run.storee (i64 (A.getD (a + d) 0)) (i64 (A.getD (i) 0)) rfl rfl rfl rfl rfl rfl rfl hyj2 rfl rfl rfl ?_
    refine Run.le ?_ hK
    simp only [d0, d1, d2, d3, d4, d5, d6, d7, d8, d9, d10, d11, d12, d13, d14, d15, d16, d17, d18, h0, Nat.reduceBEq, Bool.false_or, Bool.true_or, cond_true, cond_false]
    exact St.Le.mk' ⟨rfl, rfl, rfl, rfl, rfl, rfl, rfl, rfl, rfl, rfl, rfl, rfl, rfl, rfl, rfl, rfl, rfl, rfl, rfl, rfl, rfl, rfl, rfl, rfl, rfl, rfl, trivial⟩ ⟨rfl, rfl, rfl, trivial⟩
  refine Run.of (st' := ⟨[(0, .vec lid 0 n), (1, i64 (a : Nat)), (2, i64 (b : Nat)), (6, i64 (h : Nat)), (7, .bp (7, 0) 0), (8, u64L (p2 h)), (9, i64 (i : Nat)), (10, i64 (d : Nat))], [(lid, .vec 1 e ((sZ A (i) (a + d)).map i64)), (lidT, .tie v0 lid), ((7, 0), Ob.box [u64L r'])]⟩) ?_ ⟨rfl, rfl, rfl, rfl, rfl, rfl, rfl, rfl, trivial⟩ ⟨?_, rfl, rfl, trivial⟩
  rotate_left
  · exact congrArg (Ob.vec 1 e) (sZ_map A (i) (a + d))
  unfold Nxt
  repeat (refine Run.go rfl ?_)
  refine Run.of (IHi (sZ A i (a + d)) r' ⟨by show k + 1 ≤ 3; omega, .step hps (by omega) (by omega) (by omega) (by omega) (by omega)⟩ (by show 3 - (k + 1) < 3 - k; omega)) ⟨rfl, rfl, rfl, rfl, rfl, rfl, ?_, trivial⟩ ⟨rfl, rfl, rfl, trivial⟩
  show i64 _ = i64 _
  rw [wI1 (by omega)]

/-! ### The pivot -/

noncomputable def X56 : Fx := ⟨Try.prog, tys, 56, Try.f56, [3]⟩
theorem X56_ok : X56.Ok := ⟨Try.func56, tys_ok⟩
theorem order2_ct (A : List Int) (e : Bool) (a b : Nat) (s : Int) (hn1 : A.length ≤ 1000) (ha : a < A.length) (hb : b < A.length) :
    ∃ (x y : Nat) (s' : Int), ((x = a ∧ y = b) ∨ (x = b ∧ y = a)) ∧ CtG Try.prog 56 [.ro 1 e (A.map i64), i64 (a : Nat), i64 (b : Nat), .bp lid 0] (.box [i64 s]) (.tup [i64 (x : Nat), i64 (y : Nat)]) (.box [i64 s']) := by
  have hml : ((A.map i64).length : Nat) = A.length := List.length_map ..
  have hra : (A.map i64)[((a : Nat) : Int).toNat]? = some (i64 (A.getD a 0)) := by have := iat ha; rwa [Nat.zero_add] at this
  have hrb : (A.map i64)[((b : Nat) : Int).toNat]? = some (i64 (A.getD b 0)) := by have := iat hb; rwa [Nat.zero_add] at this
  by_cases h : A.getD b 0 < A.getD a 0
  · refine ⟨b, a, IntKind.i64.wrap (s + 1), .inr ⟨rfl, rfl⟩, ?_⟩
    refine CtG.intro X56 X56_ok rfl (by kernel_rfl) rfl rfl rfl rfl rfl fun g v0 hg => ?_
    repeat (refine Run.go rfl ?_)
    refine Run.draw (by kernel_rfl) (by decide +kernel) ?_
    repeat (refine Quiet.go rfl ?_)
    refine Quiet.val rfl rfl (ValOk.idx (i64 (A.getD b 0)) rfl rfl rfl rfl rfl (by omega) hrb) rfl ?_
    repeat (refine Quiet.go rfl ?_)
    refine Quiet.val rfl rfl (ValOk.idx (i64 (A.getD a 0)) rfl rfl rfl rfl rfl (by omega) hra) rfl ?_
    repeat (refine Quiet.go rfl ?_)
    refine Quiet.cs rfl rfl rfl rfl rfl (lessI_ct (A.getD b 0) (A.getD a 0)) rfl rfl ?_
    repeat (refine Quiet.go rfl ?_)
    refine Quiet.nil ?_
    repeat (refine Run.go rfl ?_)
    refine Run.cond rfl (fun _ => ?_) (fun h' => absurd h (by simpa using h'))
    repeat (refine Run.go rfl ?_)
    exact Run.retG hg rfl rfl rfl rfl rfl rfl
  · refine ⟨a, b, s, .inl ⟨rfl, rfl⟩, ?_⟩
    refine CtG.intro X56 X56_ok rfl (by kernel_rfl) rfl rfl rfl rfl rfl fun g v0 hg => ?_
    repeat (refine Run.go rfl ?_)
    refine Run.draw (by kernel_rfl) (by decide +kernel) ?_
    repeat (refine Quiet.go rfl ?_)
    refine Quiet.val rfl rfl (ValOk.idx (i64 (A.getD b 0)) rfl rfl rfl rfl rfl (by omega) hrb) rfl ?_
    repeat (refine Quiet.go rfl ?_)
    refine Quiet.val rfl rfl (ValOk.idx (i64 (A.getD a 0)) rfl rfl rfl rfl rfl (by omega) hra) rfl ?_
    repeat (refine Quiet.go rfl ?_)
    refine Quiet.cs rfl rfl rfl rfl rfl (lessI_ct (A.getD b 0) (A.getD a 0)) rfl rfl ?_
    repeat (refine Quiet.go rfl ?_)
    refine Quiet.nil ?_
    repeat (refine Run.go rfl ?_)
    refine Run.cond rfl (fun h' => absurd (by simpa using h') h) (fun _ => ?_)
    repeat (refine Run.go rfl ?_)
    exact Run.retG hg rfl rfl rfl rfl rfl rfl

noncomputable def X55 : Fx := ⟨Try.prog, tys, 55, Try.f55, [4]⟩
theorem X55_ok : X55.Ok := ⟨Try.func55, tys_ok⟩
theorem median_ct (A : List Int) (e : Bool) (a b c : Nat) (s : Int) (hn1 : A.length ≤ 1000) (ha : a < A.length) (hb : b < A.length) (hc : c < A.length) :
    ∃ (x : Nat) (s' : Int), (x = a ∨ x = b ∨ x = c) ∧ CtG Try.prog 55 [.ro 1 e (A.map i64), i64 (a : Nat), i64 (b : Nat), i64 (c : Nat), .bp lid 0] (.box [i64 s]) (i64 (x : Nat)) (.box [i64 s']) := by
  obtain ⟨x1, y1, s1, h1, c1⟩ := order2_ct A e a b s hn1 ha hb
  obtain ⟨x2, y2, s2, h2, c2⟩ := order2_ct A e y1 c s1 hn1 (by omega) hc
  obtain ⟨x3, y3, s3, h3, c3⟩ := order2_ct A e x1 x2 s2 hn1 (by omega) (by omega)
  refine ⟨y3, s3, by omega, ?_⟩
  refine CtG.intro X55 X55_ok rfl (by kernel_rfl) rfl rfl rfl rfl rfl fun g v0 hg => ?_
  repeat (refine Run.go rfl ?_)
  refine Run.callG lid rfl rfl rfl rfl rfl rfl rfl rfl c1 rfl rfl ?_
  repeat (refine Run.go rfl ?_)
  refine Run.callG lid rfl rfl rfl rfl rfl rfl rfl rfl c2 rfl rfl ?_
  repeat (refine Run.go rfl ?_)
  refine Run.callG lid rfl rfl rfl rfl rfl rfl rfl rfl c3 rfl rfl ?_
  repeat (refine Run.go rfl ?_)
  exact Run.retG hg rfl rfl rfl rfl rfl rfl

noncomputable def X54 : Fx := ⟨Try.prog, tys, 54, Try.f54, [2]⟩
theorem X54_ok : X54.Ok := ⟨Try.func54, tys_ok⟩
theorem medadj_ct (A : List Int) (e : Bool) (a : Nat) (s : Int) (hn1 : A.length ≤ 1000) (h1 : 1 ≤ a) (h2 : a + 1 < A.length) :
    ∃ (x : Nat) (s' : Int), (a ≤ x + 1 ∧ x ≤ a + 1) ∧ CtG Try.prog 54 [.ro 1 e (A.map i64), i64 (a : Nat), .bp lid 0] (.box [i64 s]) (i64 (x : Nat)) (.box [i64 s']) := by
  obtain ⟨q, rfl⟩ : ∃ q, a = q + 1 := ⟨a - 1, by omega⟩
  obtain ⟨x, s', hx, ct⟩ := median_ct A e q (q + 1) (q + 1 + 1) s hn1 (by omega) (by omega) (by omega)
  have hw1 := wD1 (q := q) (by omega)
  have hw2 := wI1 (i := q + 1) (by omega)
  refine ⟨x, s', by omega, ?_⟩
  refine CtG.intro X54 X54_ok rfl (by kernel_rfl) rfl rfl rfl rfl rfl fun g v0 hg => ?_
  repeat (refine Run.go rfl ?_)
  rw [hw1, hw2]
  refine Run.callG lid rfl rfl rfl rfl rfl rfl rfl rfl ct rfl rfl ?_
  repeat (refine Run.go rfl ?_)
  exact Run.retG hg rfl rfl rfl rfl rfl rfl

def hnt (s : Int) : Int := if s = 0 then 1 else if s = 12 then 2 else 0

noncomputable def X43 : Fx := ⟨Try.prog, tys, 43, Try.f43, []⟩
theorem X43_ok : X43.Ok := ⟨Try.func43, tys_ok⟩
set_option maxHeartbeats 2000000 in
theorem cpivot_ct (A : List Int) (e : Bool) (a b : Nat) (hn1 : A.length ≤ 1000) (hab : a + 8 ≤ b) (hb : b ≤ A.length) :
    ∃ (x : Nat) (s : Int), (a ≤ x ∧ x < b) ∧ Ct Try.prog 43 [.ro 1 e (A.map i64), i64 (a : Nat), i64 (b : Nat)] (.tup [i64 (x : Nat), i64 (hnt s)]) [] := by
  obtain ⟨h, hh⟩ : ∃ h, b = a + h := ⟨b - a, by omega⟩
  have hw0 := wM (a := b) (b := a) (c := h) hh (by omega)
  have hwq := wQ (h := h) (by omega)
  have hwt1 : IntKind.i64.wrap (((h / 4 : Nat) : Int) * 1) = ((h / 4 * 1 : Nat) : Int) := wT (a := h / 4) (b := 1) (by omega)
  have hwt2 : IntKind.i64.wrap (((h / 4 : Nat) : Int) * 2) = ((h / 4 * 2 : Nat) : Int) := wT (a := h / 4) (b := 2) (by omega)
  have hwt3 : IntKind.i64.wrap (((h / 4 : Nat) : Int) * 3) = ((h / 4 * 3 : Nat) : Int) := wT (a := h / 4) (b := 3) (by omega)
  have hws1 := wS (a := a) (b := h / 4 * 1) (by omega) (by omega)
  have hws2 := wS (a := a) (b := h / 4 * 2) (by omega) (by omega)
  have hws3 := wS (a := a) (b := h / 4 * 3) (by omega) (by omega)
  by_cases h50 : 50 ≤ h
  · obtain ⟨x1, s1, hx1, c1⟩ := medadj_ct A e (a + h / 4 * 1) 0 hn1 (by omega) (by omega)
    obtain ⟨x2, s2, hx2, c2⟩ := medadj_ct A e (a + h / 4 * 2) s1 hn1 (by omega) (by omega)
    obtain ⟨x3, s3, hx3, c3⟩ := medadj_ct A e (a + h / 4 * 3) s2 hn1 (by omega) (by omega)
    obtain ⟨x, s, hx, c⟩ := median_ct A e x1 x2 x3 s3 hn1 (by omega) (by omega) (by omega)
    refine ⟨x, s, by omega, ?_⟩
    refine Ct.intro X43 X43_ok rfl (by kernel_rfl) rfl rfl fun g hg => ?_
    repeat (refine Run.go rfl ?_)
    refine Run.cond rfl (fun hc => ?_) (fun hc => ?_)
    rotate_left
    · have hc : decide ((8 : Int) ≤ IntKind.i64.wrap ((b : Nat) - (a : Nat) : Int)) = false := hc
      rw [hw0] at hc
      have := of_decide_eq_false hc
      omega
    repeat (refine Run.go rfl ?_)
    refine Run.cond rfl (fun hc => ?_) (fun hc => ?_)
    rotate_left
    · have hc : decide ((50 : Int) ≤ IntKind.i64.wrap ((b : Nat) - (a : Nat) : Int)) = false := hc
      rw [hw0] at hc
      have := of_decide_eq_false hc
      omega
    repeat (refine Run.go rfl ?_)
    rw [hw0, hwq, hwt1, hwt2, hwt3, hws1, hws2, hws3]
    refine Run.callG (9, 0) rfl rfl rfl rfl rfl rfl rfl rfl c1 rfl rfl ?_
    repeat (refine Run.go rfl ?_)
    refine Run.callG (9, 0) rfl rfl rfl rfl rfl rfl rfl rfl c2 rfl rfl ?_
    repeat (refine Run.go rfl ?_)
    refine Run.callG (9, 0) rfl rfl rfl rfl rfl rfl rfl rfl c3 rfl rfl ?_
    repeat (refine Run.go rfl ?_)
    refine Run.callG (9, 0) rfl rfl rfl rfl rfl rfl rfl rfl c rfl rfl ?_
    repeat (refine Run.go rfl ?_)
    refine Run.cond rfl (fun hc => ?_) (fun hc => ?_)
    · have hs : s = 0 := eq_of_beq hc
      repeat (refine Run.go rfl ?_)
      exact Run.ret (r := .tup [i64 (x : Nat), i64 1]) hg rfl (by rw [hnt, if_pos hs])
    · have hs : ¬ s = 0 := ne_of_beq_false hc
      repeat (refine Run.go rfl ?_)
      refine Run.cond rfl (fun hc => ?_) (fun hc => ?_)
      · have hs2 : s = 12 := eq_of_beq hc
        repeat (refine Run.go rfl ?_)
        exact Run.ret (r := .tup [i64 (x : Nat), i64 2]) hg rfl (by rw [hnt, if_neg hs, if_pos hs2])
      · have hs2 : ¬ s = 12 := ne_of_beq_false hc
        repeat (refine Run.go rfl ?_)
        exact Run.ret (r := .tup [i64 (x : Nat), i64 0]) hg rfl (by rw [hnt, if_neg hs, if_neg hs2])
  · obtain ⟨x, s, hx, c⟩ := median_ct A e (a + h / 4 * 1) (a + h / 4 * 2) (a + h / 4 * 3) 0 hn1 (by omega) (by omega) (by omega)
    refine ⟨x, s, by omega, ?_⟩
    refine Ct.intro X43 X43_ok rfl (by kernel_rfl) rfl rfl fun g hg => ?_
    repeat (refine Run.go rfl ?_)
    refine Run.cond rfl (fun hc => ?_) (fun hc => ?_)
    rotate_left
    · have hc : decide ((8 : Int) ≤ IntKind.i64.wrap ((b : Nat) - (a : Nat) : Int)) = false := hc
      rw [hw0] at hc
      have := of_decide_eq_false hc
      omega
    repeat (refine Run.go rfl ?_)
    refine Run.cond rfl (fun hc => ?_) (fun hc => ?_)
    · have hc : decide ((50 : Int) ≤ IntKind.i64.wrap ((b : Nat) - (a : Nat) : Int)) = true := hc
      rw [hw0] at hc
      have := of_decide_eq_true hc
      omega
    repeat (refine Run.go rfl ?_)
    rw [hw0, hwq, hwt1, hwt2, hwt3, hws1, hws2, hws3]
    refine Run.callG (9, 0) rfl rfl rfl rfl rfl rfl rfl rfl c rfl rfl ?_
    repeat (refine Run.go rfl ?_)
    refine Run.cond rfl (fun hc => ?_) (fun hc => ?_)
    · have hs : s = 0 := eq_of_beq hc
      repeat (refine Run.go rfl ?_)
      exact Run.ret (r := .tup [i64 (x : Nat), i64 1]) hg rfl (by rw [hnt, if_pos hs])
    · have hs : ¬ s = 0 := ne_of_beq_false hc
      repeat (refine Run.go rfl ?_)
      refine Run.cond rfl (fun hc => ?_) (fun hc => ?_)
      · have hs2 : s = 12 := eq_of_beq hc
        repeat (refine Run.go rfl ?_)
        exact Run.ret (r := .tup [i64 (x : Nat), i64 2]) hg rfl (by rw [hnt, if_neg hs, if_pos hs2])
      · have hs2 : ¬ s = 12 := ne_of_beq_false hc
        repeat (refine Run.go rfl ?_)
        exact Run.ret (r := .tup [i64 (x : Nat), i64 0]) hg rfl (by rw [hnt, if_neg hs, if_neg hs2])
end Go.Proofs.Ytcfkdcjindhnjaa
