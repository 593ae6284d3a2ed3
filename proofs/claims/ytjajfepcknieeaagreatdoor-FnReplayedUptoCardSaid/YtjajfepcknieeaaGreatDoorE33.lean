/- Contracts of the program's functions, and what follows from them. -/
import Derived.Test.YtjajfepcknieeaaGreatDoorE32
set_option linter.unusedVariables false
set_option maxRecDepth 100000
set_option linter.unusedSimpArgs false
namespace Go.Proofs.YtjajfepcknieeaaGreatDoor
open Go Go.Av

/-! strings.Lines: the iterator over the lines of a text. -/

theorem ix_hit {u r : List UInt8} {c : UInt8} (h : c ∉ u) : Lib.indexByte (u ++ c :: r) c = u.length := by
  induction u with
  | nil => simp [Lib.indexByte]
  | cons b u ih =>
    have hb : (b == c) = false := by simp only [beq_eq_false_iff_ne]; intro e; exact h (by simp [e])
    rw [List.cons_append, Lib.indexByte, hb, ih (fun h' => h (List.mem_cons_of_mem _ h'))]
    simp only [Bool.false_eq_true, if_false, List.length_cons]
    rw [if_neg (by simp only [beq_iff_eq]; omega)]
    omega
theorem ix_miss {u : List UInt8} {c : UInt8} (h : c ∉ u) : Lib.indexByte u c = -1 := by
  induction u with
  | nil => rfl
  | cons b u ih =>
    have hb : (b == c) = false := by simp only [beq_eq_false_iff_ne]; intro e; exact h (by simp [e])
    rw [Lib.indexByte, hb, ih (fun h' => h (List.mem_cons_of_mem _ h'))]
    rfl

/-- The box of the text, at block B. -/
def lnBox (B : Nat) (s : List UInt8) : List (Nat × Obj) := [(B, .cells #[.string ⟨s.toArray⟩] 9 (0, 0))]
def lnFn (B : Nat) : Value := .func (.func 126) #[] #[.pointer (some ⟨B, 0, none⟩)]

noncomputable def X77 : Fx := ⟨Tryz.prog, tys, 77, Tryz.f77, []⟩
theorem X77_ok : X77.Ok := ⟨Tryz.func77, tys_ok⟩
theorem Lines_calls (s : List UInt8) (w : World) : Calls Tryz.prog 77 [.string ⟨s.toArray⟩].toArray w fun e w' => ∃ B, True ∧ e = .returned (lnFn B) ∧ held w' (lnBox B s) ∧ Kp (([] : List (Nat × Obj)).map Prod.fst) w w' ∧ ((lnBox B s).map Prod.fst).Nodup ∧
    ∀ x ∈ (lnBox B s).map Prod.fst, x ∈ ([] : List (Nat × Obj)).map Prod.fst ∨ w.heap.size ≤ x := by
  refine (calls_plain X77 X77_ok rfl (vs := [.string ⟨s.toArray⟩]) rfl rfl (fun w v w' => ∃ B, v = lnFn B ∧ held w' (lnBox B s) ∧ Kp [] w w' ∧ w.heap.size ≤ B) (fun g hF0 hp => ?_) w).mono ?_
  rotate_left
  · rintro e w' ⟨v, rfl, B, rfl, h1, h2, h3⟩
    exact ⟨B, trivial, rfl, h1, h2, by simp [lnBox], by simp [lnBox, h3]⟩
  refine Run.go rfl ?_
  refine Run.go rfl ?_
  refine Run.boxM rfl rfl rfl rfl rfl rfl rfl rfl fun B => ?_
  repeat (refine Run.go rfl ?_)
  refine Run.ret' hp fun hX a w ⟨β, F, hI⟩ => ?_
  obtain ⟨v, hv, F', hk, _, _, hR⟩ := ret_post0 (r := .fn 126 [.lit (.pointer (some ⟨B, 0, none⟩))]) hX ⟨β, F, hI⟩ rfl
  have hob := hI.obj (1, 0)
  refine ⟨v, hv, B, ?_, hob.2, by rw [hF0] at hk; exact hk, ?_⟩
  · cases hR with
    | tup _ _ _ Fs hl hr' =>
      have := hr' 0 _ v rfl (by simp)
      generalize Fs 0 = G0 at this
      cases this with
      | fn _ _ _ vals hl2 hr2 =>
        have hv0 : ∃ u, vals = #[u] := by
          have : vals.size = 1 := hl2.symm
          match vals, this with
          | ⟨[u]⟩, _ => exact ⟨u, rfl⟩
        obtain ⟨u, rfl⟩ := hv0
        have := hr2 0 _ u rfl (by simp)
        cases this
        rfl
  · have hm : B ∈ F (.o (1, 0)) := by rw [hob.1]; simp
    rcases hI.range _ B hm with h | h
    · rw [hF0] at h; simp at h
    · exact h

noncomputable def X126 : Fx := ⟨Tryz.prog, tys, 126, Tryz.f126, [1]⟩
theorem X126_ok : X126.Ok := ⟨Tryz.func126, tys_ok⟩
theorem Lines1_seq (s : List UInt8) (hlen : s.length ≤ 1048576) (B : Nat) : SeqOk Tryz.prog 126 #[.pointer (some ⟨B, 0, none⟩)] ((lnBox B s).map Prod.fst) (fun w => held w (lnBox B s)) ((lnE s).map fun l => .string ⟨l.toArray⟩) := by
  refine SeqOk.intro X126 X126_ok rfl (lb := [.pointer (some ⟨B, 0, none⟩)]) (im := lnBox B s) rfl rfl (by simp [lnBox]) fun g l J Jx ms hx hall hcov hp => ?_
  repeat (refine Run.go rfl ?_)
  refine Run.loop (fun q : List UInt8 × Nat × List (Nat × Obj) => ⟨[(0, .lit (.func (.yield l) #[] #[])), (1, .lit (.pointer (some ⟨B, 0, none⟩)))], [((0, 0), .mem [(B, .cells #[.string ⟨q.1.toArray⟩] 9 (0, 0))]), ((0, 1), .mem q.2.2)]⟩)
    (fun q => q.1.length ≤ s.length ∧ (lnE s).drop q.2.1 = lnE q.1 ∧ q.2.1 ≤ (lnE s).length ∧ Cov g ((lnBox B s).map Prod.fst) (J q.2.1) q.2.2) (fun q => q.1.length) (s, 0, ms) ⟨Nat.le_refl _, rfl, Nat.zero_le _, hcov⟩ ?_ ?_
  · exact St.Le.mk' ⟨rfl, rfl, trivial⟩ ⟨rfl, rfl, trivial⟩
  rintro ⟨r, n, ms⟩ ⟨hr, hd, hn, hcov⟩ IH
  simp only at hr hd hn hcov IH
  repeat (refine Run.go rfl ?_)
  refine Run.val rfl rfl rfl (ValOk.loadM (0, 0) rfl rfl rfl rfl rfl) rfl ?_
  repeat (refine Run.go rfl ?_)
  refine Run.cond rfl (fun h => ?_) (fun h => ?_)
  · have hr0 : r ≠ [] := by
      have h : decide ((0 : Int) < ((⟨r.toArray⟩ : ByteArray).size : Nat)) = true := h
      rw [bsz] at h
      rintro rfl
      simp at h
    clear h
    obtain ⟨w, r', hl, hlt, hc⟩ : ∃ w r', lnE r = w :: lnE r' ∧ r'.length < r.length ∧ ((∃ u, r = u ++ 10 :: r' ∧ w = u ++ [10] ∧ Lib.indexByte r 10 = (u.length : Int)) ∨ (w = r ∧ r' = [] ∧ Lib.indexByte r 10 = -1)) := by
      by_cases hm : (10 : UInt8) ∈ r
      · obtain ⟨u, r', e, hu⟩ := first_at hm
        exact ⟨u ++ [10], r', by rw [e, lnE_hit hu], by rw [e]; simp; omega, .inl ⟨u, e, rfl, by rw [e, ix_hit hu]⟩⟩
      · exact ⟨r, [], by rw [lnE_miss hm hr0]; rfl, by cases r with | nil => exact absurd rfl hr0 | cons b r => simp, .inr ⟨rfl, rfl, ix_miss hm⟩⟩
    have hni : n < (lnE s).length := by
      apply Classical.byContradiction
      intro h
      rw [List.drop_eq_nil_of_le (by omega), hl] at hd
      cases hd
    have hx1 : (lnE s)[n]? = some w := by
      have : ((lnE s).drop n)[0]? = some w := by rw [hd, hl]; rfl
      rwa [List.getElem?_drop] at this
    have hd' : (lnE s).drop (n + 1) = lnE r' := by
      have := congrArg (List.drop 1) hd
      rw [List.drop_drop, hl] at this
      exact this
    have hxv : ((lnE s).map fun l => Value.string ⟨l.toArray⟩)[n]? = some (.string ⟨w.toArray⟩) := by rw [List.getElem?_map, hx1]; rfl
    repeat (refine Run.go rfl ?_)
    refine Run.val rfl rfl rfl (ValOk.loadM (0, 0) rfl rfl rfl rfl rfl) rfl ?_
    repeat (refine Run.go rfl ?_)
    refine Run.cs rfl (IndexByte_ct r 10) rfl rfl ?_
    have hixe : Lib.indexByte r (10 : Int).toNat.toUInt8 = Lib.indexByte r 10 := rfl
    rw [hixe]
    generalize Lib.indexByte r 10 = ix at hc
    repeat (refine Run.go rfl ?_)
    refine Run.condJ ⟨[(0, .lit (.func (.yield l) #[] #[])), (1, .lit (.pointer (some ⟨B, 0, none⟩))), (3, str w)], [((0, 0), .mem [(B, .cells #[.string ⟨r'.toArray⟩] 9 (0, 0))]), ((0, 1), .mem ms)]⟩ rfl (fun h k' hN => ?_) (fun h k' hN => ?_) ?_
    · have h : 0 ≤ ix := by simpa using h
      obtain ⟨u, rfl, rfl, rfl⟩ : ∃ u, r = u ++ 10 :: r' ∧ w = u ++ [10] ∧ ix = (u.length : Int) := hc.resolve_right fun h' => by omega
      clear hc
      have hul : u.length + 1 ≤ 1048576 := by simp at hr; omega
      have ht1 : (u ++ 10 :: r').take (u.length + 1) = u ++ [10] := by
        rw [show u ++ 10 :: r' = (u ++ [10]) ++ r' by simp, List.take_left' (by simp)]
      have ht2 : ((u ++ 10 :: r').take (u ++ 10 :: r').length).drop (u.length + 1) = r' := by
        rw [List.take_length, show u ++ 10 :: r' = (u ++ [10]) ++ r' by simp, List.drop_left' (by simp)]
      have hw1 : IntKind.i64.wrap ((u.length : Int) + 1) = ((u.length + 1 : Nat) : Int) := by rw [wrap_i64 (by omega) (by omega)]; rfl
      refine Run.drawI (fun D => ⟨[(0, .lit (.func (.yield l) #[] #[])), (1, .lit (.pointer (some ⟨B, 0, none⟩))), (4, i64 (u.length : Int)), (12, bif D 0 then str (u ++ 10 :: r') else .top), (13, bif D 1 then i64 (u.length : Int) else .top), (14, bif D 2 then i64 (IntKind.i64.wrap ((u.length : Int) + 1)) else .top), (15, bif D 3 then str (u ++ [10]) else .top), (16, bif D 4 then str (u ++ 10 :: r') else .top), (17, bif D 5 then i64 (u.length : Int) else .top), (18, bif D 6 then i64 (IntKind.i64.wrap ((u.length : Int) + 1)) else .top), (19, bif D 7 then str r' else .top), (3, bif D 8 then str (u ++ [10]) else str [])], [((0, 0), (bif D 9 then .mem [(B, .cells #[.string ⟨r'.toArray⟩] 9 (0, 0))] else .mem [(B, .cells #[.string ⟨(u ++ 10 :: r').toArray⟩] 9 (0, 0))])), ((0, 1), .mem ms)]⟩) (by decide +kernel) (by decide +kernel) ?_ ?_ fun k' => ⟨?_, ?_, ?_, ?_, ?_, ?_, ?_, ?_, ?_, ?_, trivial⟩
      · exact St.Le.mk' ⟨rfl, rfl, rfl, rfl, rfl, rfl, rfl, rfl, rfl, rfl, rfl, rfl, trivial⟩ ⟨rfl, rfl, trivial⟩
      rotate_left
      · intro D hid h0 hp hs rest hK
        obtain ⟨d3, d8, d9, -⟩ : AllD D false [3, 8, 9] := ideal_sub hs (by decide +kernel)
        simp only [d3, d8, d9, h0, cond_true, cond_false]
        refine Run.val rfl rfl rfl (ValOk.loadM (0, 0) rfl rfl rfl rfl rfl) rfl ?_
        refine Run.le ?_ hK
        simp only [d3, d8, d9, h0, Nat.reduceBEq, Bool.false_or, Bool.true_or, cond_true, cond_false]
        exact St.Le.mk' ⟨rfl, rfl, rfl, rfl, rfl, rfl, rfl, rfl, rfl, rfl, rfl, rfl, trivial⟩ ⟨rfl, rfl, trivial⟩
      · intro D hid h0 hp hs rest hK
        obtain ⟨d2, d8, d9, -⟩ : AllD D false [2, 8, 9] := ideal_sub hs (by decide +kernel)
        simp only [d2, d8, d9, h0, cond_true, cond_false]
        refine Run.go rfl ?_
        refine Run.le ?_ hK
        simp only [d2, d8, d9, h0, Nat.reduceBEq, Bool.false_or, Bool.true_or, cond_true, cond_false]
        exact St.Le.mk' ⟨rfl, rfl, rfl, rfl, rfl, rfl, rfl, rfl, rfl, rfl, rfl, rfl, trivial⟩ ⟨rfl, rfl, trivial⟩
      · intro D hid h0 hp hs rest hK
        obtain ⟨d1, -⟩ : AllD D true [1] := ideal_sub hp (by decide +kernel)
        obtain ⟨d3, d8, d9, -⟩ : AllD D false [3, 8, 9] := ideal_sub hs (by decide +kernel)
        simp only [d1, d3, d8, d9, h0, cond_true, cond_false]
        refine Run.go rfl ?_
        refine Run.le ?_ hK
        simp only [d1, d3, d8, d9, h0, Nat.reduceBEq, Bool.false_or, Bool.true_or, cond_true, cond_false]
        exact St.Le.mk' ⟨rfl, rfl, rfl, rfl, rfl, rfl, rfl, rfl, rfl, rfl, rfl, rfl, trivial⟩ ⟨rfl, rfl, trivial⟩
      · intro D hid h0 hp hs rest hK
        obtain ⟨d0, d2, -⟩ : AllD D true [0, 2] := ideal_sub hp (by decide +kernel)
        obtain ⟨d8, d9, -⟩ : AllD D false [8, 9] := ideal_sub hs (by decide +kernel)
        simp only [d0, d2, d8, d9, h0, cond_true, cond_false]
        refine Run.val rfl rfl rfl (ValOk.scut (s := 0) (h := IntKind.i64.wrap ((u.length : Int) + 1)) (u ++ 10 :: r') (u ++ [10]) rfl rfl rfl rfl rfl rfl (by omega) (by rw [hw1]; omega) (by rw [hw1, List.length_append, List.length_cons]; omega) (by rw [hw1]; exact ht1)) rfl ?_
        refine Run.le ?_ hK
        simp only [d0, d2, d8, d9, h0, Nat.reduceBEq, Bool.false_or, Bool.true_or, cond_true, cond_false]
        exact St.Le.mk' ⟨rfl, rfl, rfl, rfl, rfl, rfl, rfl, rfl, rfl, rfl, rfl, rfl, trivial⟩ ⟨rfl, rfl, trivial⟩
      · intro D hid h0 hp hs rest hK
        obtain ⟨d7, d9, -⟩ : AllD D false [7, 9] := ideal_sub hs (by decide +kernel)
        simp only [d7, d9, h0, cond_true, cond_false]
        refine Run.val rfl rfl rfl (ValOk.loadM (0, 0) rfl rfl rfl rfl rfl) rfl ?_
        refine Run.le ?_ hK
        simp only [d7, d9, h0, Nat.reduceBEq, Bool.false_or, Bool.true_or, cond_true, cond_false]
        exact St.Le.mk' ⟨rfl, rfl, rfl, rfl, rfl, rfl, rfl, rfl, rfl, rfl, rfl, rfl, trivial⟩ ⟨rfl, rfl, trivial⟩
      · intro D hid h0 hp hs rest hK
        obtain ⟨d6, d9, -⟩ : AllD D false [6, 9] := ideal_sub hs (by decide +kernel)
        simp only [d6, d9, h0, cond_true, cond_false]
        refine Run.go rfl ?_
        refine Run.le ?_ hK
        simp only [d6, d9, h0, Nat.reduceBEq, Bool.false_or, Bool.true_or, cond_true, cond_false]
        exact St.Le.mk' ⟨rfl, rfl, rfl, rfl, rfl, rfl, rfl, rfl, rfl, rfl, rfl, rfl, trivial⟩ ⟨rfl, rfl, trivial⟩
      · intro D hid h0 hp hs rest hK
        obtain ⟨d5, -⟩ : AllD D true [5] := ideal_sub hp (by decide +kernel)
        obtain ⟨d7, d9, -⟩ : AllD D false [7, 9] := ideal_sub hs (by decide +kernel)
        simp only [d5, d7, d9, h0, cond_true, cond_false]
        refine Run.go rfl ?_
        refine Run.le ?_ hK
        simp only [d5, d7, d9, h0, Nat.reduceBEq, Bool.false_or, Bool.true_or, cond_true, cond_false]
        exact St.Le.mk' ⟨rfl, rfl, rfl, rfl, rfl, rfl, rfl, rfl, rfl, rfl, rfl, rfl, trivial⟩ ⟨rfl, rfl, trivial⟩
      · intro D hid h0 hp hs rest hK
        obtain ⟨d4, d6, -⟩ : AllD D true [4, 6] := ideal_sub hp (by decide +kernel)
        obtain ⟨d9, -⟩ : AllD D false [9] := ideal_sub hs (by decide +kernel)
        simp only [d4, d6, d9, h0, cond_true, cond_false]
        refine Run.val rfl rfl rfl (ValOk.scut (s := IntKind.i64.wrap ((u.length : Int) + 1)) (h := ((u ++ 10 :: r').length : Int)) (u ++ 10 :: r') r' rfl rfl rfl rfl rfl rfl (by rw [hw1]; omega) (by rw [hw1, List.length_append, List.length_cons]; omega) (by omega) (by rw [hw1]; exact ht2)) rfl ?_
        refine Run.le ?_ hK
        simp only [d4, d6, d9, h0, Nat.reduceBEq, Bool.false_or, Bool.true_or, cond_true, cond_false]
        exact St.Le.mk' ⟨rfl, rfl, rfl, rfl, rfl, rfl, rfl, rfl, rfl, rfl, rfl, rfl, trivial⟩ ⟨rfl, rfl, trivial⟩
      · intro D hid h0 hp hs rest hK
        obtain ⟨d0, d1, d2, d3, -⟩ : AllD D true [0, 1, 2, 3] := ideal_sub hp (by decide +kernel)
        obtain ⟨d9, -⟩ : AllD D false [9] := ideal_sub hs (by decide +kernel)
        simp only [d0, d1, d2, d3, d9, h0, cond_true, cond_false]
        refine Run.go rfl ?_
        refine Run.le ?_ hK
        simp only [d0, d1, d2, d3, d9, h0, Nat.reduceBEq, Bool.false_or, Bool.true_or, cond_true, cond_false]
        exact St.Le.mk' ⟨rfl, rfl, rfl, rfl, rfl, rfl, rfl, rfl, rfl, rfl, rfl, rfl, trivial⟩ ⟨rfl, rfl, trivial⟩
      · intro D hid h0 hp hs rest hK
        obtain ⟨d0, d1, d2, d3, d4, d5, d6, d7, d8, -⟩ : AllD D true [0, 1, 2, 3, 4, 5, 6, 7, 8] := ideal_sub hp (by decide +kernel)
        simp only [d0, d1, d2, d3, d4, d5, d6, d7, d8, h0, cond_true, cond_false]
        refine Run.storeM (0, 0) rfl rfl rfl rfl rfl rfl rfl rfl rfl rfl rfl rfl ?_
        refine Run.le ?_ hK
        simp only [d0, d1, d2, d3, d4, d5, d6, d7, d8, h0, Nat.reduceBEq, Bool.false_or, Bool.true_or, cond_true, cond_false]
        exact St.Le.mk' ⟨rfl, rfl, rfl, rfl, rfl, rfl, rfl, rfl, rfl, rfl, rfl, rfl, trivial⟩ ⟨rfl, rfl, trivial⟩
      exact Run.of hN ⟨rfl, rfl, rfl, trivial⟩ ⟨rfl, rfl, trivial⟩
    · have h : ¬ 0 ≤ ix := by simpa using h
      obtain ⟨rfl, rfl, rfl⟩ : w = r ∧ r' = [] ∧ ix = -1 := hc.resolve_left fun ⟨u, _, _, h'⟩ => by omega
      repeat (refine Run.go rfl ?_)
      refine Run.val rfl rfl rfl (ValOk.loadM (0, 0) rfl rfl rfl rfl rfl) rfl ?_
      repeat (refine Run.go rfl ?_)
      refine Run.storeM (0, 0) rfl rfl rfl rfl rfl rfl rfl rfl rfl rfl rfl rfl ?_
      repeat (refine Run.go rfl ?_)
      exact Run.of hN ⟨rfl, rfl, rfl, trivial⟩ ⟨rfl, rfl, trivial⟩
    clear hc
    repeat (refine Run.go rfl ?_)
    refine Run.yield (0, 0) (0, 1) hx hall rfl rfl rfl rfl rfl rfl hxv rfl rfl rfl (by decide) hcov ⟨rfl, rfl⟩ rfl (fun ms' hc => ?_) (fun ms' hc => ?_)
    · repeat (refine Run.go rfl ?_)
      refine Run.cond rfl (fun h => by cases h) (fun h => ?_)
      repeat (refine Run.go rfl ?_)
      exact Run.of (IH (r', n + 1, ms') ⟨by simp only; omega, hd', by simp only; omega, hc⟩ hlt) ⟨rfl, rfl, trivial⟩ ⟨rfl, rfl, trivial⟩
    · repeat (refine Run.go rfl ?_)
      refine Run.cond rfl (fun h => ?_) (fun h => by cases h)
      exact Run.retI (0, 0) (0, 1) hp rfl hx rfl rfl rfl (.inr hc)
  · have hr0 : r = [] := by
      have h : decide ((0 : Int) < ((⟨r.toArray⟩ : ByteArray).size : Nat)) = false := h
      rw [bsz] at h
      cases r with
      | nil => rfl
      | cons b r => simp at h
    subst hr0
    have hne : n = ((lnE s).map fun l => Value.string ⟨l.toArray⟩).length := by
      rw [List.length_map]
      have : ((lnE s).drop n).length = 0 := by rw [hd]; rfl
      rw [List.length_drop] at this
      omega
    repeat (refine Run.go rfl ?_)
    exact Run.endI (0, 0) (0, 1) hp rfl hx rfl rfl rfl (.inl (hne ▸ hcov))

theorem HasSuffix_ct (s : List UInt8) (hlen : s.length ≤ 1048576) : Ct Tryz.prog 75 [str s, str [10]] (bo (decide (s.getLast? = some 10))) [] := by
  refine Ct.ofCalls (vs := [.string ⟨s.toArray⟩, .string ⟨([10] : List UInt8).toArray⟩]) Tryz.func75 (by kernel_rfl) (by kernel_rfl) fun w => ?_
  refine (Tryz.strings_HasSuffix ⟨s.toArray⟩ ⟨([10] : List UInt8).toArray⟩ w (by rw [bsz]; omega)).mono ?_
  rintro e w' ⟨rfl, rfl⟩
  refine ⟨_, rfl, Kp.refl _ _, fun L => ?_⟩
  have : Lib.hasSuffix s [10] = decide (s.getLast? = some 10) := by
    rw [← suff_last]
    refine Bool.eq_iff_iff.2 ?_
    rw [Lib.hasSuffix, List.isSuffixOf_iff_suffix, decide_eq_true_eq]

  rw [← this]
  exact .lit _ _

theorem TrimSuffix_ct (l t : List UInt8) (ht : t = l ++ [10]) (hlen : t.length ≤ 1048577) : Ct Tryz.prog 78 [str t, str [10]] (str l) [] := by
  refine Ct.ofCalls (vs := [.string ⟨t.toArray⟩, .string ⟨([10] : List UInt8).toArray⟩]) Tryz.func78 (by kernel_rfl) (by kernel_rfl) fun w => ?_
  refine (Tryz.strings_TrimSuffix ⟨t.toArray⟩ ⟨([10] : List UInt8).toArray⟩ w (by rw [bsz]; omega)).mono ?_
  rintro e w' ⟨rfl, rfl⟩
  refine ⟨_, rfl, Kp.refl _ _, fun L => ?_⟩
  have : Lib.trimSuffix t [10] = l := by
    have hs : Lib.hasSuffix (l ++ [10]) [10] = true := by rw [Lib.hasSuffix, List.isSuffixOf_iff_suffix]; exact ⟨l, rfl⟩
    rw [ht, Lib.trimSuffix, if_pos hs]
    simp
  show Rel _ _ _ (str l) (.string ⟨(Lib.trimSuffix t [10]).toArray⟩) _
  rw [this]
  exact .lit _ _

theorem Count_ct (s : List UInt8) : Ct Tryz.prog 76 [str s, str [10]] (i64 (s.count 10 : Int)) [] := by
  refine Ct.ofCalls (vs := [.string ⟨s.toArray⟩, .string ⟨([10] : List UInt8).toArray⟩]) Tryz.func76 (by kernel_rfl) (by kernel_rfl) fun w => ?_
  refine (Tryz.strings_Count_one ⟨s.toArray⟩ 10 w).mono ?_
  rintro e w' ⟨rfl, rfl⟩
  exact ⟨_, rfl, Kp.refl _ _, fun L => .lit _ _⟩

/-- The lines of a text that is ended. -/
def lines (s : List UInt8) : List (List UInt8) := (spl 10 s).dropLast

/-- Whether the lines are to be read. -/
def rdOk (s : List UInt8) (m : Nat) : Bool := ended s && decide (s.count 10 ≤ m)

theorem lines_facts (s : List UInt8) : ∃ w, spl 10 s = lines s ++ [w] ∧ decide (w = []) = ended s ∧ s.count 10 = (lines s).length := by
  have hc := count_spl s _ (Nat.le_refl _)
  cases he : ended s with
  | true =>
    obtain ⟨ls, h1, h2⟩ := spl_lnE _ s (Nat.le_refl _) he
    have hl : lines s = ls := by rw [lines, h1]; simp
    refine ⟨[], by rw [hl, h1], rfl, ?_⟩
    rw [h1, List.length_append, List.length_singleton] at hc
    rw [hl]; omega
  | false =>
    obtain ⟨ls, w, h1, h2⟩ := spl_last _ s (Nat.le_refl _) he
    have hl : lines s = ls := by rw [lines, h1]; simp
    refine ⟨w, by rw [hl, h1], decide_eq_false h2, ?_⟩
    rw [h1, List.length_append, List.length_singleton] at hc
    rw [hl]; omega

end Go.Proofs.YtjajfepcknieeaaGreatDoor
