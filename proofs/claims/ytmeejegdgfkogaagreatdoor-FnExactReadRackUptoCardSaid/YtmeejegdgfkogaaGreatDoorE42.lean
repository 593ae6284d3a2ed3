/- Contracts of the program's functions, and what follows from them. -/
import Derived.Test.YtmeejegdgfkogaaGreatDoorE41
set_option linter.unusedVariables false
set_option maxRecDepth 100000
set_option linter.unusedSimpArgs false
namespace Go.Proofs.YtmeejegdgfkogaaGreatDoor
open Go Go.Av

/-! Racks out of their texts: the reference, and the law. -/

theorem fw_at (s : List UInt8) : (fw s).length ≤ s.length ∧ s.take (fw s).length = fw s ∧ (∀ k, k < (fw s).length → ∃ c, s[k]? = some c ∧ c ≠ 32) ∧ ((fw s).length < s.length → s[(fw s).length]? = some 32) := by
  have hall : ∀ c ∈ fw s, c ≠ 32 := fun c hc => by
    have := List.all_eq_true.1 (List.all_takeWhile (l := s) (p := fun b => decide (b ≠ 32))) c hc
    simpa using this
  by_cases h : (fw s).length = s.length
  · have e : fw s = s := by
      have := List.takeWhile_prefix (l := s) (p := fun b => decide (b ≠ 32))
      exact List.IsPrefix.eq_of_length this h
    rw [e] at hall ⊢
    exact ⟨Nat.le_refl _, List.take_length, fun k hk => ⟨s[k], List.getElem?_eq_getElem hk, hall _ (List.getElem_mem hk)⟩, fun h => by omega⟩
  · obtain ⟨e, h32⟩ := fw_split h
    generalize fw s = f at *
    generalize s.drop (f.length + 1) = r at e
    subst e
    refine ⟨by simp, List.take_left' rfl, fun k hk => ⟨f[k], ?_, hall _ (List.getElem_mem hk)⟩, fun _ => ?_⟩
    · rw [List.getElem?_append_left hk, List.getElem?_eq_getElem hk]
    · rw [List.getElem?_append_right (Nat.le_refl _)]
      simp

noncomputable def X4 : Fx := ⟨Tryz.prog, tys, 4, Tryz.f4, [0]⟩
theorem X4_ok : X4.Ok := ⟨Tryz.func4, tys_ok⟩
theorem specReadRack_ct (s : List UInt8) (hlen : s.length ≤ 1048576) : Ct Tryz.prog 4 [str s] (rkRes (rkS s)) [] := by
  obtain ⟨w, hW, hw, _⟩ := lines_facts s
  have hsplit := l01Split_ct s 10 hlen
  have hwl := fun u (h : u ∈ spl 10 s) => spl_wlen h
  have hWlen := spl_len 10 s
  rw [hW] at hsplit hwl hWlen
  rw [List.length_append, List.length_singleton] at hWlen
  have hR : rkS s = rkS s := rfl
  conv at hR => rhs; unfold rkS
  generalize lines s = L at *
  have hlm : ((L ++ [w]).map str).length = L.length + 1 := by simp
  have hatw : ((L ++ [w]).map str)[(((L.length : Nat) : Int)).toNat]? = some (str w) := by
    rw [Int.toNat_natCast, List.getElem?_map]; simp
  have wn : IntKind.i64.wrap ((((L ++ [w]).map str).length : Nat) - (1 : Int)) = (L.length : Int) := by rw [hlm, wrap_i64 (by omega) (by omega)]; omega
  refine Ct.intro X4 X4_ok rfl (by kernel_rfl) rfl rfl fun g hg => ?_
  repeat (refine Run.go rfl ?_)
  refine Run.cs rfl hsplit rfl (rfS _) ?_
  iterate 2 (refine Run.go rfl ?_)
  refine Run.freeze 4 (v' := .ro 1 false ((L ++ [w]).map str)) rfl rfl (by show AV.ro 1 false (AV.frzL _) = _; rw [frzS]) ?_
  cases L with
  | nil =>
    have hR : rkS s = (rk0, 5) := hR
    rw [hR] at hg
    repeat (refine Run.go rfl ?_)
    refine Run.bool 22 rfl (fun h => ?_) (fun h => by simp [IntKind.wrap, IntKind.bits, IntKind.signed] at h)
    repeat (refine Run.go rfl ?_)
    refine Run.cond rfl (fun h => ?_) (fun h => by cases h)
    repeat (refine Run.go rfl ?_)
    refine Run.val rfl rfl rfl (ValOk.build rfl rfl rfl rfl rfl) rfl ?_
    repeat (refine Run.go rfl ?_)
    refine Run.nilBox (2, 0) 1 9 false rfl rfl ?_
    exact Run.ret (r := .tup [.agg [i16 0, .own 9 false []], i64 5]) hg (by kernel_rfl) rfl
  | cons w1 ls =>
  simp only at hR
  repeat (refine Run.go rfl ?_)
  refine Run.bool 22 rfl (fun h => ?_) (fun h => ?_)
  · exfalso
    have h : decide (IntKind.i64.wrap ((((w1 :: ls ++ [w]).map str).length : Nat) - (1 : Int)) < 1) = true := h
    rw [wn] at h
    simp at h
    omega
  clear h
  have wn' : IntKind.i64.wrap ((((w1 :: ls ++ [w]).map str).length : Nat) - (1 : Int)) = ((ls.length + 1 : Nat) : Int) := wn
  have hat0 : ((w1 :: ls ++ [w]).map str)[((0 : Int)).toNat]? = some (str w1) := rfl
  have hatj : ∀ (j : Nat) (u : List UInt8), ls[j]? = some u → ((w1 :: ls ++ [w]).map str)[((((j + 1 : Nat) : Int))).toNat]? = some (str u) := fun j u hu => by
    rw [Int.toNat_natCast, List.getElem?_map, List.cons_append, List.getElem?_cons_succ, List.getElem?_append_left (List.getElem?_eq_some_iff.1 hu).1, hu]; rfl
  generalize hRO : (w1 :: ls ++ [w]).map str = RO at *
  rw [wn]
  repeat (refine Run.go rfl ?_)
  refine Run.val rfl rfl rfl (ValOk.idx (str w) rfl rfl rfl rfl rfl (by omega) hatw) rfl ?_
  repeat (refine Run.go rfl ?_)
  refine Run.cond rfl (fun h => ?_) (fun h => ?_)
  · have he : ended s = false := by
      have h : (!((⟨w.toArray⟩ : ByteArray).toList == (⟨([] : List UInt8).toArray⟩ : ByteArray).toList)) = true := h
      rw [str_eq, hw] at h
      simpa using h
    have hR : rkS s = (rk0, 5) := by rw [hR, he]; rfl
    rw [hR] at hg
    repeat (refine Run.go rfl ?_)
    refine Run.val rfl rfl rfl (ValOk.build rfl rfl rfl rfl rfl) rfl ?_
    repeat (refine Run.go rfl ?_)
    refine Run.nilBox (2, 0) 1 9 false rfl rfl ?_
    exact Run.ret (r := .tup [.agg [i16 0, .own 9 false []], i64 5]) hg (by kernel_rfl) rfl
  have he : ended s = true := by
    have h : (!((⟨w.toArray⟩ : ByteArray).toList == (⟨([] : List UInt8).toArray⟩ : ByteArray).toList)) = false := h
    rw [str_eq, hw] at h
    simpa using h
  clear h
  rw [he, Bool.true_and] at hR
  have hn1 := l01Number_ct w1 (Nat.le_trans (hwl w1 (by simp)) hlen)
  have hlen1 : ls.length ≤ 1048576 := by simp at hWlen; omega
  generalize (l1n w1).2 = ok1 at hn1 hR
  generalize (l1n w1).1 = n at hn1 hR
  repeat (refine Run.go rfl ?_)
  refine Run.val rfl rfl rfl (ValOk.idx (str w1) rfl rfl rfl rfl rfl (by decide) hat0) rfl ?_
  repeat (refine Run.go rfl ?_)
  refine Run.cs rfl hn1 rfl rfl ?_
  repeat (refine Run.go rfl ?_)
  cases ok1 with
  | false =>
    have hR : rkS s = (rk0, 5) := hR
    rw [hR] at hg
    repeat (refine Run.go rfl ?_)
    refine Run.cond rfl (fun h => ?_) (fun h => by cases h)
    repeat (refine Run.go rfl ?_)
    refine Run.val rfl rfl rfl (ValOk.build rfl rfl rfl rfl rfl) rfl ?_
    repeat (refine Run.go rfl ?_)
    refine Run.nilBox (2, 0) 1 9 false rfl rfl ?_
    exact Run.ret (r := .tup [.agg [i16 0, .own 9 false []], i64 5]) hg (by kernel_rfl) rfl
  | true =>
  rw [Bool.true_and] at hR
  repeat (refine Run.go rfl ?_)
  refine Run.cs rfl (l05Places_ct n) rfl rfl ?_
  repeat (refine Run.go rfl ?_)
  refine Run.cond rfl (fun h => ?_) (fun h => ?_)
  · have h : inr n 1 60 = false := by simpa using h
    have hR : rkS s = (rk0, 5) := by rw [hR, h]; rfl
    rw [hR] at hg
    repeat (refine Run.go rfl ?_)
    refine Run.val rfl rfl rfl (ValOk.build rfl rfl rfl rfl rfl) rfl ?_
    repeat (refine Run.go rfl ?_)
    refine Run.nilBox (2, 0) 1 9 false rfl rfl ?_
    exact Run.ret (r := .tup [.agg [i16 0, .own 9 false []], i64 5]) hg (by kernel_rfl) rfl
  have hin : inr n 1 60 = true := by simpa using h
  clear h
  rw [hin, Bool.true_and] at hR
  have hnr : 1 ≤ n ∧ n ≤ 60 := by simpa only [inr, Bool.and_eq_true, decide_eq_true_eq] using hin
  have cn16 : IntKind.i16.wrap n = n := wrap_i16 (by omega) (by omega)
  repeat (refine Run.go rfl ?_)
  refine Run.val rfl rfl rfl (ValOk.build (cs := [i16 (IntKind.i16.wrap n), .lit (.slice none 0 0)]) rfl rfl rfl rfl (by kernel_rfl)) rfl ?_
  rw [cn16]
  repeat (refine Run.go rfl ?_)
  refine Run.nilBox (8, 0) 1 9 false rfl rfl ?_
  refine Run.loop (fun j : Nat => ⟨[(2, .bp (2, 0) 0), (4, .ro 1 false RO), (5, i64 ((ls.length + 1 : Nat) : Int)), (6, i64 n), (8, .bp (8, 0) 0), (9, i64 ((j + 1 : Nat) : Int))], [((2, 0), .box [i16 0, .lit (.slice none 0 0)]), ((8, 0), .box [i16 n, .own 9 false (((ls.take j).map lnV).map plA)])]⟩)
    (fun j => j ≤ ls.length ∧ ((ls.take j).all (lnS n)) = true) (fun j => ls.length - j) 0 ⟨by omega, by simp⟩ ?_ ?_
  · exact St.Le.mk' ⟨rfl, rfl, rfl, rfl, rfl, rfl, trivial⟩ ⟨rfl, rfl, trivial⟩
  rintro j ⟨hj, hall⟩ IH
  repeat (refine Run.go rfl ?_)
  refine Run.cond rfl (fun h => ?_) (fun h => ?_)
  · have hlt : j < ls.length := by simp at h; omega
    clear h
    have hx : ls[j]? = some ls[j] := List.getElem?_eq_getElem hlt
    have hm : ls[j] ∈ ls := List.getElem_mem hlt
    have hst1 : (ls.take (j + 1)).map lnV = (ls.take j).map lnV ++ [lnV ls[j]] := by
      rw [List.take_add_one, hx, List.map_append]; rfl
    have hst2 : ((ls.take (j + 1)).all (lnS n)) = lnS n ls[j] := by
      rw [List.take_add_one, hx, List.all_append, hall]; simp
    have hbad : lnS n ls[j] = false → rkS s = (rk0, 5) := fun h => by
      have : ls.all (lnS n) = false := List.all_eq_false.2 ⟨_, hm, by rw [h]; simp⟩
      rw [hR, this]; rfl
    have hll : ls[j].length ≤ 1048576 := Nat.le_trans (hwl _ (by simp [hm])) hlen
    have hat := hatj j _ hx
    have hlenY : ((ls.take j).map lnV).length ≤ 1048576 := by rw [List.length_map, List.length_take]; omega
    have hS : lnS n ls[j] = ((l1n (fw ls[j])).2 && decide ((l1n (fw ls[j])).1 < n) && decide ((fw ls[j]).length ≠ ls[j].length) && (rbS (ls[j].drop ((fw ls[j]).length + 1))).2) := rfl
    have hV : lnV ls[j] = ⟨(l1n (fw ls[j])).1, (rbS (ls[j].drop ((fw ls[j]).length + 1))).1⟩ := rfl
    obtain ⟨f1, f2, f3, f4⟩ := fw_at ls[j]
    have hnf := l01Number_ct (fw ls[j]) (by omega)
    have hnn := l1n_nn (fw ls[j])
    have hrb := specReadBook_ct (ls[j].drop ((fw ls[j]).length + 1)) (by rw [List.length_drop]; omega)
    have hrd : ls[j].drop ((fw ls[j]).length + 1) = ls[j].drop ((fw ls[j]).length + 1) := rfl
    generalize hrest : ls[j].drop ((fw ls[j]).length + 1) = rest at hS hV hrb
    generalize (rbS rest).2 = okb at hS hrb
    generalize (rbS rest).1 = bk at hV hrb
    generalize (l1n (fw ls[j])).2 = oka at hS hnf
    generalize (l1n (fw ls[j])).1 = at' at hS hV hnf hnn
    generalize lnS n ls[j] = lok at hS hst2 hbad
    generalize lnV ls[j] = y at hV hst1
    generalize fw ls[j] = f at *
    generalize ls[j] = ln at *
    generalize hY : (ls.take j).map lnV = Ys at hst1 hlenY
    refine Run.le (st' := ⟨[(2, .bp (2, 0) 0), (4, .ro 1 false RO), (5, i64 ((ls.length + 1 : Nat) : Int)), (6, i64 n), (8, .bp (8, 0) 0), (9, i64 ((j + 1 : Nat) : Int))], [((2, 0), .box [i16 0, .lit (.slice none 0 0)]), ((8, 0), .box [i16 n, .own 9 false (Ys.map plA)])]⟩) (St.Le.mk' ⟨rfl, rfl, rfl, rfl, rfl, rfl, trivial⟩ ⟨rfl, rfl, trivial⟩) ?_
    repeat (refine Run.go rfl ?_)
    refine Run.loopTo ⟨[(2, .bp (2, 0) 0), (4, .ro 1 false RO), (5, i64 ((ls.length + 1 : Nat) : Int)), (6, i64 n), (8, .bp (8, 0) 0), (9, i64 ((j + 1 : Nat) : Int)), (10, i64 f.length)], [((2, 0), .box [i16 0, .lit (.slice none 0 0)]), ((8, 0), .box [i16 n, .own 9 false (Ys.map plA)])]⟩ (fun k' hN => ?_) ?_
    · refine Run.loop (fun k : Nat => ⟨[(2, .bp (2, 0) 0), (4, .ro 1 false RO), (5, i64 ((ls.length + 1 : Nat) : Int)), (6, i64 n), (8, .bp (8, 0) 0), (9, i64 ((j + 1 : Nat) : Int)), (10, i64 k)], [((2, 0), .box [i16 0, .lit (.slice none 0 0)]), ((8, 0), .box [i16 n, .own 9 false (Ys.map plA)])]⟩)
        (fun k => k ≤ f.length) (fun k => f.length - k) 0 (by omega) ?_ ?_
      · exact St.Le.mk' ⟨rfl, rfl, rfl, rfl, rfl, rfl, rfl, trivial⟩ ⟨rfl, rfl, trivial⟩
      intro k hk IH2
      repeat (refine Run.go rfl ?_)
      refine Run.val rfl rfl rfl (ValOk.idx (str ln) rfl rfl rfl rfl rfl (by omega) hat) rfl ?_
      repeat (refine Run.go rfl ?_)
      refine Run.bool 60 rfl (fun h => ?_) (fun h => ?_)
      · have hkl : k < ln.length := by
          have h : decide ((k : Int) < ((⟨ln.toArray⟩ : ByteArray).size : Nat)) = true := h
          rw [bsz] at h
          simp at h
          omega
        clear h
        repeat (refine Run.go rfl ?_)
        refine Run.val rfl rfl rfl (ValOk.idx (str ln) rfl rfl rfl rfl rfl (by omega) hat) rfl ?_
        repeat (refine Run.go rfl ?_)
        obtain ⟨c, hc1, hc2⟩ : ∃ c, ln[k]? = some c ∧ ((c ≠ 32 ∧ k < f.length) ∨ (c = 32 ∧ k = f.length)) := by
          by_cases hkf : k < f.length
          · obtain ⟨c, h1, h2⟩ := f3 k hkf
            exact ⟨c, h1, .inl ⟨h2, hkf⟩⟩
          · have : k = f.length := by omega
            subst this
            exact ⟨32, f4 hkl, .inr ⟨rfl, rfl⟩⟩
        refine Run.val rfl rfl rfl (ValOk.sidx ln c rfl rfl rfl rfl rfl (by omega) (by rw [Int.toNat_natCast]; exact hc1)) rfl ?_
        repeat (refine Run.go rfl ?_)
        refine Run.cond rfl (fun h => ?_) (fun h => ?_)
        · have hne : c ≠ 32 := by
            rintro rfl
            simp at h
          have hkf := (hc2.resolve_right (fun h => hne h.1)).2
          repeat (refine Run.go rfl ?_)
          refine Run.of (IH2 (k + 1) (by omega) (by omega)) ⟨rfl, rfl, rfl, rfl, rfl, rfl, ?_, trivial⟩ ⟨rfl, rfl, trivial⟩
          show i64 _ = i64 _
          rw [wrap_i64 (by omega) (by omega)]
          rfl
        · have he32 : c = 32 := by
            have h : (!((c.toNat : Int) == 32)) = false := h
            have h : (c.toNat : Int) = 32 := by simpa using h
            exact UInt8.toNat_inj.1 (by show c.toNat = 32; omega)
          have hkf := (hc2.resolve_left (fun h => h.1 he32)).2
          subst hkf
          repeat (refine Run.go rfl ?_)
          exact Run.of hN ⟨rfl, rfl, rfl, rfl, rfl, rfl, rfl, trivial⟩ ⟨rfl, rfl, trivial⟩
      · have hkl : ¬ k < ln.length := by
          have h : decide ((k : Int) < ((⟨ln.toArray⟩ : ByteArray).size : Nat)) = false := h
          rw [bsz] at h
          simp at h
          omega
        have hkf : k = f.length := by omega
        subst hkf
        repeat (refine Run.go rfl ?_)
        refine Run.cond rfl (fun h => by cases h) (fun h => ?_)
        repeat (refine Run.go rfl ?_)
        exact Run.of hN ⟨rfl, rfl, rfl, rfl, rfl, rfl, rfl, trivial⟩ ⟨rfl, rfl, trivial⟩
    have hw1 : IntKind.i64.wrap ((f.length : Int) + 1) = ((f.length + 1 : Nat) : Int) := by rw [wrap_i64 (by omega) (by omega)]; rfl
    repeat (refine Run.go rfl ?_)
    refine Run.val rfl rfl rfl (ValOk.idx (str ln) rfl rfl rfl rfl rfl (by omega) hat) rfl ?_
    repeat (refine Run.go rfl ?_)
    refine Run.val rfl rfl rfl (ValOk.scut (s := 0) (h := (f.length : Int)) ln f rfl rfl rfl rfl rfl rfl (by omega) (by omega) (by omega) (by rw [Int.toNat_natCast]; exact f2)) rfl ?_
    repeat (refine Run.go rfl ?_)
    refine Run.cs rfl hnf rfl rfl ?_
    repeat (refine Run.go rfl ?_)
    cases oka with
    | false =>
      rw [hbad (by rw [hS]; rfl)] at hg
      repeat (refine Run.go rfl ?_)
      refine Run.cond rfl (fun h => ?_) (fun h => by cases h)
      repeat (refine Run.go rfl ?_)
      refine Run.val rfl rfl rfl (ValOk.build rfl rfl rfl rfl rfl) rfl ?_
      repeat (refine Run.go rfl ?_)
      refine Run.nilBox (2, 0) 1 9 false rfl rfl ?_
      exact Run.ret (r := .tup [.agg [i16 0, .own 9 false []], i64 5]) hg (by kernel_rfl) rfl
    | true =>
    repeat (refine Run.go rfl ?_)
    refine Run.bool 88 rfl (fun h => ?_) (fun h => ?_)
    · have h : ¬ at' < n := by simpa using h
      rw [hbad (by rw [hS, decide_eq_false h]; rfl)] at hg
      repeat (refine Run.go rfl ?_)
      refine Run.cond rfl (fun h => ?_) (fun h => by cases h)
      repeat (refine Run.go rfl ?_)
      refine Run.val rfl rfl rfl (ValOk.build rfl rfl rfl rfl rfl) rfl ?_
      repeat (refine Run.go rfl ?_)
      refine Run.nilBox (2, 0) 1 9 false rfl rfl ?_
      exact Run.ret (r := .tup [.agg [i16 0, .own 9 false []], i64 5]) hg (by kernel_rfl) rfl
    have hatn : at' < n := by simpa using h
    clear h
    rw [decide_eq_true hatn] at hS
    repeat (refine Run.go rfl ?_)
    refine Run.val rfl rfl rfl (ValOk.idx (str ln) rfl rfl rfl rfl rfl (by omega) hat) rfl ?_
    repeat (refine Run.go rfl ?_)
    refine Run.cond rfl (fun h => ?_) (fun h => ?_)
    · have h : f.length = ln.length := by
        have h : ((f.length : Int) == ((⟨ln.toArray⟩ : ByteArray).size : Nat)) = true := h
        rw [bsz] at h
        simp at h
        omega
      rw [hbad (by rw [hS, decide_eq_false (by simp [h])]; rfl)] at hg
      repeat (refine Run.go rfl ?_)
      refine Run.val rfl rfl rfl (ValOk.build rfl rfl rfl rfl rfl) rfl ?_
      repeat (refine Run.go rfl ?_)
      refine Run.nilBox (2, 0) 1 9 false rfl rfl ?_
      exact Run.ret (r := .tup [.agg [i16 0, .own 9 false []], i64 5]) hg (by kernel_rfl) rfl
    have hfl : f.length ≠ ln.length := by
      intro e
      have h : ((f.length : Int) == ((⟨ln.toArray⟩ : ByteArray).size : Nat)) = false := h
      rw [bsz, e] at h
      simp at h
    clear h
    rw [decide_eq_true hfl] at hS
    repeat (refine Run.go rfl ?_)
    refine Run.val rfl rfl rfl (ValOk.idx (str ln) rfl rfl rfl rfl rfl (by omega) hat) rfl ?_
    repeat (refine Run.go rfl ?_)
    refine Run.val rfl rfl rfl (ValOk.scut (s := IntKind.i64.wrap ((f.length : Int) + 1)) (h := (ln.length : Int)) ln rest rfl rfl rfl rfl rfl rfl (by rw [hw1]; omega) (by rw [hw1]; omega) (by omega) (by rw [hw1, Int.toNat_natCast, Int.toNat_natCast, List.take_length]; exact hrest)) rfl ?_
    repeat (refine Run.go rfl ?_)
    obtain ⟨b1, b2, b3, b4, b5, b6, b7, b8⟩ := bk
    refine Run.cs rfl hrb rfl rfl ?_
    repeat (refine Run.go rfl ?_)
    cases okb with
    | false =>
      rw [hbad (by rw [hS]; rfl)] at hg
      repeat (refine Run.go rfl ?_)
      refine Run.cond rfl (fun h => ?_) (fun h => by cases h)
      repeat (refine Run.go rfl ?_)
      refine Run.val rfl rfl rfl (ValOk.build rfl rfl rfl rfl rfl) rfl ?_
      repeat (refine Run.go rfl ?_)
      refine Run.nilBox (2, 0) 1 9 false rfl rfl ?_
      exact Run.ret (r := .tup [.agg [i16 0, .own 9 false []], i64 5]) hg (by kernel_rfl) rfl
    | true =>
    repeat (refine Run.go rfl ?_)
    refine Run.cond rfl (fun h => by cases h) (fun h => ?_)
    clear h
    have ca : IntKind.i16.wrap at' = at' := wrap_i16 (by omega) (by omega)
    refine Run.unBox (8, 0) 1 (8, 1) rfl rfl rfl (by decide) ?_
    repeat (refine Run.go rfl ?_)
    refine Run.val rfl rfl rfl (ValOk.build (cs := [i16 (IntKind.i16.wrap at'), i16 b1, u8 b2, u8 b3, u8 b4, i16 b5, i16 b6, i16 b7, i16 b8]) rfl rfl rfl rfl (by kernel_rfl)) rfl ?_
    rw [ca]
    refine Run.buildSlice [.agg [i16 at', i16 b1, u8 b2, u8 b3, u8 b4, i16 b5, i16 b6, i16 b7, i16 b8]] rfl rfl rfl rfl rfl rfl rfl rfl rfl rfl rfl rfl rfl rfl ?_
    refine Run.appendo rfl rfl rfl rfl rfl rfl rfl rfl rfl rfl rfl rfl rfl rfl (by show ((Ys.map plA).length + 1) * 16 ≤ 140737488355328; rw [List.length_map]; omega) (by simp [capMax]; omega) (by decide) rfl ?_
    refine Run.unpack 119 rfl rfl ?_
    repeat (refine Run.go rfl ?_)
    refine Run.packBox (8, 0) 1 rfl rfl rfl rfl ?_
    repeat (refine Run.go rfl ?_)
    refine Run.of (IH (j + 1) ⟨by omega, by rw [hst2, hS]; rfl⟩ (by omega)) ⟨rfl, rfl, rfl, rfl, rfl, ?_, trivial⟩ ⟨rfl, ?_, trivial⟩
    · show i64 _ = i64 _
      rw [wrap_i64 (by omega) (by omega)]
      rfl
    · show Ob.box _ = Ob.box _
      rw [hst1, hV, List.map_append]
      rfl
  · have hj' : j = ls.length := by simp at h; omega
    subst hj'
    rw [List.take_length] at hall
    rw [if_pos hall] at hR
    rw [List.take_length]
    have hok : rkOk ⟨n, ls.map lnV⟩ := by
      refine ⟨⟨by simp only [i16r]; omega, by simp only [List.length_map]; exact hlen1⟩, fun x hx => ?_⟩
      obtain ⟨l, hl, rfl⟩ := List.mem_map.1 hx
      have := List.all_eq_true.1 hall l hl
      rw [lnS, Bool.and_eq_true, Bool.and_eq_true, Bool.and_eq_true, decide_eq_true_eq, decide_eq_true_eq] at this
      obtain ⟨⟨⟨h1, h2⟩, h3⟩, h4⟩ := this
      have hnn := l1n_nn (fw l)
      refine ⟨by simp only [lnV, i16r]; omega, ?_⟩
      have := rbP_rng (l.drop ((fw l).length + 1))
      rw [(rbS_ok h4).2.2] at this
      exact this
    have hV := l05Ok_ct ⟨n, ls.map lnV⟩ false hok
    generalize ls.map lnV = Ys at hR hok hV
    refine Run.le (st' := ⟨[(2, .bp (2, 0) 0), (8, .bp (8, 0) 0)], [((2, 0), .box [i16 0, .lit (.slice none 0 0)]), ((8, 0), .box [i16 n, .own 9 false (Ys.map plA)])]⟩) (St.Le.mk' ⟨rfl, rfl, trivial⟩ ⟨rfl, rfl, trivial⟩) ?_
    refine Run.unBox (8, 0) 1 (8, 1) rfl rfl rfl (by decide) ?_
    repeat (refine Run.go rfl ?_)
    refine Run.cs rfl hV (by rw [frzP, decide_eq_true rfl]; rfl) rfl ?_
    repeat (refine Run.go rfl ?_)
    refine Run.cond rfl (fun h => ?_) (fun h => ?_)
    · have h : ¬ vR ⟨n, Ys⟩ = true := by simpa using h
      rw [if_neg h] at hR
      rw [hR] at hg
      repeat (refine Run.go rfl ?_)
      refine Run.val rfl rfl rfl (ValOk.build rfl rfl rfl rfl rfl) rfl ?_
      repeat (refine Run.go rfl ?_)
      refine Run.nilBox (2, 0) 1 9 false rfl rfl ?_
      exact Run.ret (r := .tup [.agg [i16 0, .own 9 false []], i64 5]) hg (by kernel_rfl) rfl
    · have h : vR ⟨n, Ys⟩ = true := by simpa using h
      rw [if_pos h] at hR
      rw [hR] at hg
      repeat (refine Run.go rfl ?_)
      refine Run.packBox (2, 0) 1 rfl rfl rfl rfl ?_
      exact Run.ret (r := .tup [.agg [i16 n, .own 9 false (Ys.map plA)], i64 0]) hg (by kernel_rfl) rfl
end Go.Proofs.YtmeejegdgfkogaaGreatDoor
