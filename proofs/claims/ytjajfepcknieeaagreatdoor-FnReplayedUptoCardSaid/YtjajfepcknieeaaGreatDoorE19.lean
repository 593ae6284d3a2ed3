/- Contracts of the program's functions, and what follows from them. -/
import Derived.Test.YtjajfepcknieeaaGreatDoorE18
import Derived.Test.YtjajfepcknieeaaGreatDoorSP
set_option linter.unusedVariables false
set_option maxRecDepth 100000
set_option linter.unusedSimpArgs false
namespace Go.Proofs.YtjajfepcknieeaaGreatDoor
open Go Go.Av

/-! Numbers and words out of a text: the program. -/

noncomputable def ambR : Amb := Amb.var Tryz.prog "strconv.ErrRange" 2 (fun cs => ∃ tp p, cs = #[.iface tp p])
noncomputable def ambM : Amb where
  n := 0 + 1
  holds w := ∃ m, w.cell? ⟨0, 0, none⟩ = some (.int .i64 m)
  stable := by
    rintro w w' h ⟨m, hm⟩
    refine ⟨m, ?_⟩
    rw [← hm]
    exact World.cell?_of_block (w := w) (a := ⟨0, 0, none⟩) (h _ (Nat.lt_succ_self _))
/-- What the reading of texts wants: tables, errors, MaxLen. -/
noncomputable def ambA : Amb := Amb.and ambS (Amb.and ambR ambM)
theorem ambA_S {w : World} {F : List Nat} (h : ambA.on w F) : ambS.on w F := (Amb.on_and.1 h).1
theorem ambA_T {w : World} {F : List Nat} (h : ambA.on w F) : ambT.on w F := ambS_T (ambA_S h)

theorem dec64A_ct (n : Int) (h0 : -9223372036854775808 ≤ n) (h1 : n ≤ 9223372036854775807) : CtA ambT Tryz.prog 133 [i64 n, i64 10] (str (Lib.itoa n)) [] := by
  refine CtA.ofCalls ambT (vs := [.int .i64 n, .int .i64 10]) Tryz.func133 (by kernel_rfl) (by kernel_rfl) fun w hA => ?_
  refine (Tryz.strconv_FormatInt_10 n h0 h1 w (ambT_tab hA)).mono ?_
  rintro e w' ⟨rfl, k, os, rfl⟩
  exact ⟨_, rfl, (Kp.drewN [] w k).trans (Kp.grow [] _ os) (by simp), fun L => .lit _ _⟩

noncomputable def X160 : Fx := ⟨Tryz.prog, tys, 160, Tryz.f160, [0]⟩
theorem X160_ok : X160.Ok := ⟨Tryz.func160, tys_ok⟩
theorem decA_ct (n : Int) (h0 : -9223372036854775808 ≤ n) (h1 : n ≤ 9223372036854775807) : CtA ambT Tryz.prog 160 [i64 n] (str (Lib.itoa n)) [] := by
  refine CtA.intro ambT X160 X160_ok rfl rfl rfl rfl fun g hA hg => ?_
  repeat (refine Run.go rfl ?_)
  try rw [show IntKind.i64.wrap n = n from wrap_i64 h0 h1]
  refine Run.csA rfl ((dec64A_ct n h0 h1).at hA) rfl rfl ?_
  repeat (refine Run.go rfl ?_)
  exact Run.ret hg rfl rfl

/-- What readDec says. -/
def rdRes (s : List UInt8) : Int × Bool := match Lib.parseIntB 64 s with
  | .ok v => (v, decide (Lib.itoa v = s))
  | .«syntax» => (0, false)
  | .range => (Lib.intSat 64 s, false)

theorem parse_rng {s : List UInt8} {v : Int} (h : Lib.parseIntB 64 s = .ok v) : -9223372036854775808 ≤ v ∧ v ≤ 9223372036854775807 := by
  unfold Lib.parseIntB at h
  split at h
  · cases h
  · simp only at h
    split at h
    · cases h
    · cases h
    · split at h
      · cases h
      · split at h
        · cases h
        · rename_i h1 h2
          have h3 : (2 : Nat) ^ (64 - 1) = 9223372036854775808 := by decide
          rw [h3] at h1 h2
          simp only [Lib.NumEnd.ok.injEq] at h
          subst h
          split <;> rename_i hn
          · have : ¬ 9223372036854775808 < _ := fun e => h2 ⟨hn, e⟩
            omega
          · have : ¬ 9223372036854775808 ≤ _ := fun e => h1 ⟨hn, e⟩
            omega

theorem itoa_dd {n : Nat} : Lib.itoa (n : Int) = Lib.decDigits n := Lib.itoa_nonneg n
theorem shV_eq (s : List UInt8) : shV s = if (rdRes s).2 = true ∧ 0 ≤ (rdRes s).1 ∧ (rdRes s).1 ≤ 32767 then (rdRes s).1 else -1 := by
  by_cases h : 0 ≤ shV s
  · have hc := shV_nonneg h
    have hle := (shV_ge s).2
    have e := cn_some hc
    generalize hn : (shV s).toNat = n at e hc
    have hv : shV s = n := by omega
    have hp := parse_dd (n := n) (by omega)
    rw [← e] at hp
    have hr : rdRes s = ((n : Int), true) := by
      unfold rdRes
      rw [hp]
      show ((n : Int), decide (Lib.itoa (n : Int) = s)) = _
      rw [itoa_dd, ← e, decide_eq_true rfl]
    rw [hr, if_pos ⟨rfl, by omega, by omega⟩, hv]
  · have hm : shV s = -1 := by have := (shV_ge s).1; omega
    rw [hm, if_neg]
    rintro ⟨h1, h2, h3⟩
    unfold rdRes at h1 h2 h3
    cases hp : Lib.parseIntB 64 s with
    | «syntax» => rw [hp] at h1; cases h1
    | range => rw [hp] at h1; cases h1
    | ok v =>
      rw [hp] at h1 h2 h3
      simp only [decide_eq_true_eq] at h1 h2 h3
      obtain ⟨n, rfl⟩ := Int.eq_ofNat_of_zero_le h2
      rw [itoa_dd] at h1
      apply h
      unfold shV
      rw [← h1, cn_dd]
      show 0 ≤ if n ≤ 32767 then (n : Int) else -1
      rw [if_pos (by omega)]
      omega

noncomputable def X130 : Fx := ⟨Tryz.prog, tys, 130, Tryz.f130, [0]⟩
theorem X130_ok : X130.Ok := ⟨Tryz.func130, tys_ok⟩
theorem readDec_ct (s : List UInt8) (hlen : s.length ≤ 1048576) : CtA ambA Tryz.prog 130 [str s] (.tup [i64 (rdRes s).1, bo (rdRes s).2]) [] := by
  have hd : (⟨s.toArray⟩ : ByteArray).data.toList = s := by simp
  refine CtA.intro ambA X130 X130_ok rfl (by kernel_rfl) rfl rfl fun g hA hg => ?_
  repeat (refine Run.go rfl ?_)
  refine Run.callU ambA hA (vs := [.string ⟨s.toArray⟩, .int .i64 10, .int .i64 64]) (fun p : Int × Value => (∃ v, Lib.parseIntB 64 s = .ok v ∧ p = (v, .nilIface)) ∨ ((rdRes s).2 = false ∧ ∃ tp q, p = ((rdRes s).1, .iface tp q)))
    (fun p => .tup [i64 p.1, .lit p.2]) rfl rfl rfl rfl rfl rfl (by kernel_rfl) (fun w hW => ?_) rfl ?_
  · have hres : ∀ (w : World) (n : Int) (v : Value) (L : Nat → Prop), Rel w L noEnv (.tup [i64 n, .lit v]) (.tuple #[.int .i64 n, v]) [] := by
      intro w n v L
      have := Rel.tup (w := w) (L := L) noEnv [i64 n, .lit v] #[.int .i64 n, v] (fun _ => []) rfl (by
        intro k x u hx hu
        match k with
        | 0 => simp at hx hu; subst hx; subst hu; exact .lit _ _
        | 1 => simp at hx hu; subst hx; subst hu; exact .lit _ _
        | k + 2 => simp at hx)
      rwa [foots_nil (fun _ _ => rfl)] at this
    cases hp : Lib.parseIntB 64 s with
    | ok v =>
      refine (Tryz.strconv_ParseInt_10_at64_ok ⟨s.toArray⟩ (by rw [bsz]; omega) v (by rw [hd]; exact hp) w).mono ?_
      rintro e w' ⟨rfl, hw'⟩
      refine ⟨(v, .nilIface), _, .inl ⟨v, rfl, rfl⟩, rfl, ?_, fun L => hres _ _ _ _⟩
      rcases hw' with rfl | ⟨t, rfl⟩
      · exact Kp.refl _ _
      · refine ⟨?_, ?_, ?_, by rw [Lib.bytesWorld_size]; omega, fun b hb _ => Lib.bytesWorld_at_old w 5 _ b hb⟩
        all_goals (unfold Lib.bytesWorld World.freeze; split <;> rfl)
    | «syntax» =>
      obtain ⟨⟨_, cs, hv, tp, p, rfl⟩, _⟩ := (Amb.on_and.1 (ambA_S hW)).2
      refine (Tryz.strconv_ParseInt_10_at64_syntax_var ⟨s.toArray⟩ (by rw [bsz]; omega) (by rw [hd]; exact hp) tp p w hv).mono ?_
      rintro e w' ⟨N, rfl, hN⟩
      have hr : rdRes s = (0, false) := by unfold rdRes; rw [hp]
      refine ⟨((rdRes s).1, _), _, .inr ⟨by rw [hr], _, _, rfl⟩, rfl, ?_, fun L => by rw [hr]; exact hres _ _ _ _⟩
      exact Kp.of_below hN.2.2
    | range =>
      obtain ⟨⟨_, cs, hv, tp, p, rfl⟩, _⟩ := (Amb.on_and.1 (Amb.on_and.1 hW).2).1
      refine (Tryz.strconv_ParseInt_10_at64_range_var ⟨s.toArray⟩ (by rw [bsz]; omega) (by rw [hd]; exact hp) tp p w hv).mono ?_
      rintro e w' ⟨N, rfl, hN⟩
      have hr : rdRes s = (Lib.intSat 64 s, false) := by unfold rdRes; rw [hp]
      rw [hd]
      refine ⟨((rdRes s).1, _), _, .inr ⟨by rw [hr], _, _, rfl⟩, rfl, ?_, fun L => by rw [hr]; exact hres _ _ _ _⟩
      exact Kp.of_below hN.2.2
  · rintro ⟨n, e⟩ hC
    rcases hC with ⟨v, hp, hpe⟩ | ⟨hf, tp, q, hpe⟩
    · simp only [Prod.mk.injEq] at hpe
      obtain ⟨rfl, rfl⟩ := hpe
      have hrg := parse_rng hp
      have hr : rdRes s = (n, decide (Lib.itoa n = s)) := by unfold rdRes; rw [hp]
      repeat (refine Run.go rfl ?_)
      refine Run.val rfl rfl rfl (ValOk.ifnil0 rfl Tryz.underlying132 rfl) rfl ?_
      repeat (refine Run.go rfl ?_)
      refine Run.csA rfl ((decA_ct n hrg.1 hrg.2).at (ambA_T hA)) rfl rfl ?_
      repeat (refine Run.go rfl ?_)
      refine Run.ret hg rfl ?_
      rw [hr]
      show AV.tup [i64 n, bo ((⟨(Lib.itoa n).toArray⟩ : ByteArray).toList == (⟨s.toArray⟩ : ByteArray).toList)] = AV.tup [i64 n, bo (decide (Lib.itoa n = s))]
      rw [str_eq]
    · simp only [Prod.mk.injEq] at hpe
      obtain ⟨rfl, rfl⟩ := hpe
      repeat (refine Run.go rfl ?_)
      refine Run.val rfl rfl rfl (ValOk.ifnil rfl Tryz.underlying132 rfl) rfl ?_
      repeat (refine Run.go rfl ?_)
      refine Run.ret hg rfl ?_
      rw [hf]
      rfl

noncomputable def X82 : Fx := ⟨Tryz.prog, tys, 82, Tryz.f82, [0]⟩
theorem X82_ok : X82.Ok := ⟨Tryz.func82, tys_ok⟩
theorem short_ct (s : List UInt8) (hlen : s.length ≤ 1048576) : CtA ambA Tryz.prog 82 [str s] (i16 (shV s)) [] := by
  have hrd := readDec_ct s hlen
  have he := shV_eq s
  generalize rdRes s = R at hrd he
  obtain ⟨n, ok⟩ := R
  simp only at hrd he
  refine CtA.intro ambA X82 X82_ok rfl rfl rfl rfl fun g hA hg => ?_
  repeat (refine Run.go rfl ?_)
  refine Run.csA rfl (hrd.at hA) rfl rfl ?_
  cases ok with
  | false =>
    rw [if_neg (by simp)] at he
    repeat (refine Run.go rfl ?_)
    refine Run.cond rfl (fun _ => ?_) (fun h => by cases h)
    repeat (refine Run.go rfl ?_)
    refine Run.ret hg rfl ?_
    rw [he]
    rfl
  | true =>
  repeat (refine Run.go rfl ?_)
  refine Run.cs rfl (within64_ct n 0 32767) rfl rfl ?_
  repeat (refine Run.go rfl ?_)
  refine Run.cond rfl (fun h => ?_) (fun h => ?_)
  · have h : inr n 0 32767 = false := by simpa using h
    simp [inr] at h
    rw [if_neg (by omega)] at he
    repeat (refine Run.go rfl ?_)
    refine Run.ret hg rfl ?_
    rw [he]
    rfl
  · have h : inr n 0 32767 = true := by simpa using h
    simp [inr] at h
    rw [if_pos ⟨rfl, by omega, by omega⟩] at he
    repeat (refine Run.go rfl ?_)
    refine Run.ret hg rfl ?_
    show i16 _ = _
    rw [he, wrap_i16 (by omega) (by omega)]

noncomputable def X80 : Fx := ⟨Tryz.prog, tys, 80, Tryz.f80, [0, 1]⟩
theorem X80_ok : X80.Ok := ⟨Tryz.func80, tys_ok⟩
theorem indexS_ct (l : List (List UInt8)) (ex : Bool) (n : List UInt8) (hlen : l.length ≤ 1048576) : Ct Tryz.prog 80 [.ro 1 ex (l.map str), str n] (i64 (fi (fun x => decide (n = x)) l)) [] := by
  refine Ct.intro X80 X80_ok rfl rfl rfl rfl fun g hg => ?_
  repeat (refine Run.go rfl ?_)
  refine Run.loop (fun j : Nat => ⟨[(0, .ro 1 ex (l.map str)), (1, str n), (7, i64 l.length), (8, i64 j)], []⟩) (fun j => j ≤ l.length ∧ j ≤ l.findIdx (fun x => decide (n = x))) (fun j => l.length - j) 0 ⟨by omega, by omega⟩ ?_ ?_
  · refine St.Le.mk' ⟨rfl, rfl, ?_, rfl, trivial⟩ trivial
    show i64 (l.map str).length = _
    simp
  · rintro j ⟨hj1, hj2⟩ IH
    repeat (refine Run.go rfl ?_)
    refine Run.cond rfl (fun h => ?_) (fun h => ?_)
    · have hlt : j < l.length := by simpa using h
      repeat (refine Run.go rfl ?_)
      refine Run.val rfl rfl rfl (ValOk.idx (str l[j]) rfl rfl rfl rfl rfl (by omega) (by simp [hlt])) rfl ?_
      repeat (refine Run.go rfl ?_)
      refine Run.cond rfl (fun h => ?_) (fun h => ?_)
      · have h : decide (n = l[j]) = true := (str_eq n l[j]).symm.trans h
        repeat (refine Run.go rfl ?_)
        refine Run.ret hg rfl ?_
        show i64 _ = _
        rw [fi_at hlt h hj2]
      · have h : decide (n = l[j]) = false := (str_eq n l[j]).symm.trans h
        repeat (refine Run.go rfl ?_)
        refine Run.of (IH (j + 1) ⟨by omega, fi_next hlt h hj2⟩ (by omega)) ⟨rfl, rfl, rfl, ?_, trivial⟩ trivial
        show i64 _ = _
        rw [wrap_i64 (by omega) (by omega)]
        rfl
    · repeat (refine Run.go rfl ?_)
      have hj : j = l.length := by simp at h; omega
      refine Run.ret hg rfl ?_
      show i64 (-1) = _
      rw [fi_none (by omega)]

theorem fi_last (w : List UInt8) : fi (fun x => decide (w = x)) wordsL = lastW w 6 := by
  have : ∀ (a0 a1 a2 a3 a4 a5 : Bool), True := fun _ _ _ _ _ _ => trivial
  by_cases h0 : w = wordsL.getD 0 []
  · subst h0; decide
  by_cases h1 : w = wordsL.getD 1 []
  · subst h1; decide
  by_cases h2 : w = wordsL.getD 2 []
  · subst h2; decide
  by_cases h3 : w = wordsL.getD 3 []
  · subst h3; decide
  by_cases h4 : w = wordsL.getD 4 []
  · subst h4; decide
  by_cases h5 : w = wordsL.getD 5 []
  · subst h5; decide
  have e1 : lastW w 6 = -1 := by
    simp only [lastW]
    rw [if_neg (fun e => h5 e.symm), if_neg (fun e => h4 e.symm), if_neg (fun e => h3 e.symm), if_neg (fun e => h2 e.symm), if_neg (fun e => h1 e.symm), if_neg (fun e => h0 e.symm)]
  rw [e1, fi_none]
  rw [List.findIdx_eq_length_of_false]
  · exact Nat.le_refl _
  intro x hx
  simp only [wordsL, List.mem_cons, List.not_mem_nil, or_false] at hx
  rcases hx with rfl | rfl | rfl | rfl | rfl | rfl
  · exact decide_eq_false h0
  · exact decide_eq_false h1
  · exact decide_eq_false h2
  · exact decide_eq_false h3
  · exact decide_eq_false h4
  · exact decide_eq_false h5

theorem map_strs (c : UInt8) (s : List UInt8) : ((Lib.splitB ⟨#[c]⟩ 0 (Lib.countB ⟨s.toArray⟩ ⟨#[c]⟩) ⟨s.toArray⟩).map Value.string) = (spl c s).map fun l => Value.string ⟨l.toArray⟩ := by
  have h1 := Lib.splitB_data ⟨#[c]⟩ 0 (Lib.countB ⟨s.toArray⟩ ⟨#[c]⟩) ⟨s.toArray⟩
  have h2 : Lib.countB ⟨s.toArray⟩ ⟨#[c]⟩ = s.count c := by
    show Lib.count _ _ = _
    exact Lib.count_one c s
  have h3 : Lib.splitK [c] 0 (Lib.countB ⟨s.toArray⟩ ⟨#[c]⟩) s = spl c s := splitK_spl c _ s (by rw [h2]; exact Nat.le_refl _)
  have h1 : (Lib.splitB ⟨#[c]⟩ 0 (Lib.countB ⟨s.toArray⟩ ⟨#[c]⟩) ⟨s.toArray⟩).map (·.data.toList) = spl c s := by
    rw [h1]
    exact h3
  rw [← h1, List.map_map]
  apply List.map_congr_left
  intro x _
  rfl

theorem Split_ct (s : List UInt8) (c : UInt8) (hlen : s.length ≤ 1048576) : CtA ambA Tryz.prog 79 [str s, str [c]] (.ro 1 true ((spl c s).map str)) [] := by
  refine CtA.ofCallsR ambA (vs := [.string ⟨s.toArray⟩, .string ⟨([c] : List UInt8).toArray⟩]) Tryz.func79 (by kernel_rfl) (by kernel_rfl) fun w hA => ?_
  obtain ⟨⟨m, hm⟩, _⟩ := (Amb.on_and.1 (Amb.on_and.1 hA).2).2
  refine (Tryz.strings_Split ⟨s.toArray⟩ ⟨([c] : List UInt8).toArray⟩ m w (by rw [bsz]; omega) hm (by rw [bsz]; exact Nat.le_refl 1)).mono ?_
  rintro e w' ⟨rfl, rfl⟩
  have hms := map_strs c s
  have hcn : Lib.countB ⟨s.toArray⟩ ⟨([c] : List UInt8).toArray⟩ + 1 = (spl c s).length := by
    have h := Lib.splitB_all ⟨#[c]⟩ (by show 1 ≤ 1; exact Nat.le_refl 1) 0 _ ⟨s.toArray⟩ rfl
    have h2 := congrArg List.length hms
    rw [List.length_map, List.length_map] at h2
    rw [← h2]
    exact h.symm
  rw [hcn]
  refine ⟨_, rfl, ?_, fun L hL => ?_⟩
  · exact Kp.alloc [] w _
  · refine Rel.strs (T := 9) (fz := (0, 0)) _ (fun h => absurd (hL _ h) (Nat.lt_irrefl _)) ?_ (by have := spl_len c s; simp only [capMax]; omega)
    rw [← hms]
    exact alloc_new w _
end Go.Proofs.YtjajfepcknieeaaGreatDoor
