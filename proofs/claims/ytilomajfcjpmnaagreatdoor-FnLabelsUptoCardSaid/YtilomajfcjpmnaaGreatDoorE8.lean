/- Contracts of the program's functions, and what follows from them. -/
import Derived.Test.YtilomajfcjpmnaaGreatDoorE7
import Derived.Test.YtilomajfcjpmnaaGreatDoorMF
import Derived.Test.YtilomajfcjpmnaaGreatDoorSB
import Derived.Lib.AtoiTie
set_option linter.unusedVariables false
set_option maxRecDepth 100000
set_option linter.unusedSimpArgs false
namespace Go.Proofs.YtilomajfcjpmnaaGreatDoor
open Go Go.Av

/-! Reading labels. -/

noncomputable def ambE : Amb := Amb.var Tryz.prog "strconv.ErrSyntax" 1 (fun cs => ∃ tp p, cs = #[.iface tp p])
noncomputable def ambS : Amb := Amb.and ambT ambE
theorem ambS_T {w : World} {F : List Nat} (h : ambS.on w F) : ambT.on w F := (Amb.on_and.1 h).1

def atoV (s : List UInt8) : Int := (Lib.atoi s).getD 0

theorem Atoi_ctA (s : List UInt8) (h : s.length ≤ 18) : CtA ambS Tryz.prog 110 [str s] (.tup [i64 (atoV s), .top]) [] := by
  refine CtA.ofCalls ambS (vs := [.string ⟨s.toArray⟩]) Tryz.func110 (by kernel_rfl) (by kernel_rfl) fun w hA => ?_
  have hres : ∀ (w : World) (v : Value) (L : Nat → Prop), Rel w L noEnv (.tup [i64 (atoV s), .top]) (.tuple #[.int .i64 (atoV s), v]) [] := by
    intro w v L
    have := Rel.tup (w := w) (L := L) noEnv [i64 (atoV s), .top] #[.int .i64 (atoV s), v] (fun _ => []) rfl (by
      intro k x u hx hu
      match k with
      | 0 => simp at hx hu; subst hx; subst hu; exact .lit _ _
      | 1 => simp at hx hu; subst hx; subst hu; exact .top _ _
      | k + 2 => simp at hx)
    rwa [foots_nil (fun _ _ => rfl)] at this
  have hd : (⟨s.toArray⟩ : ByteArray).data.toList = s := by simp
  cases ha : Lib.atoi s with
  | some n =>
    refine (Tryz.strconv_Atoi ⟨s.toArray⟩ n (by rw [bsz]; exact h) (by rw [hd]; exact ha) w).mono ?_
    rintro e w' ⟨rfl, t, rfl⟩
    refine ⟨_, rfl, ?_, fun L => ?_⟩
    · refine ⟨?_, ?_, ?_, by rw [Lib.bytesWorld_size]; omega, fun b hb _ => Lib.bytesWorld_at_old w 5 _ b hb⟩
      all_goals (unfold Lib.bytesWorld World.freeze; split <;> rfl)
    · have e : n = atoV s := by simp [atoV, ha]
      rw [e]
      exact hres _ _ _
  | none =>
    obtain ⟨⟨_, ⟨hg, cs, hv, tp, p, rfl⟩⟩, _⟩ := hA
    refine (Tryz.strconv_Atoi_syntax_var ⟨s.toArray⟩ (by rw [bsz]; omega) (by rw [hd, Lib.atoiAll_short s h, ha]; rfl) tp p w hv).mono ?_
    rintro e w' ⟨N, rfl, _, _, hb⟩
    refine ⟨_, rfl, Kp.of_below hb, fun L => ?_⟩
    have e : (0 : Int) = atoV s := by simp [atoV, ha]
    rw [e]
    exact hres _ _ _

theorem decFrom_lt (l : List UInt8) : ∀ acc n, Lib.decFrom acc l = some n → n < (acc + 1) * 10 ^ l.length := by
  induction l with
  | nil => intro acc n h; simp only [Lib.decFrom, Option.some.injEq] at h; subst h; simp
  | cons b r ih =>
    intro acc n h
    simp only [Lib.decFrom] at h
    split at h
    · rename_i d hd
      have h1 := ih _ _ h
      have hd9 : d ≤ 9 := by
        unfold Lib.digitVal at hd
        split at hd
        · obtain rfl := Option.some.inj hd; omega
        · cases hd
      refine Nat.lt_of_lt_of_le h1 ?_
      rw [List.length_cons, Nat.pow_succ', ← Nat.mul_assoc]
      exact Nat.mul_le_mul_right _ (by omega)
    · cases h
theorem decNat_lt {l : List UInt8} {n : Nat} (h : Lib.decNat l = some n) : n < 10 ^ l.length := by
  unfold Lib.decNat at h
  split at h
  · cases h
  · have := decFrom_lt l 0 n h
    simpa using this
theorem atoV_lt (s : List UInt8) : atoV s < (10 ^ s.length : Nat) := by
  have hp : ∀ k, 0 < 10 ^ k := fun k => Nat.pow_pos (by omega)
  unfold atoV
  cases s with
  | nil => simp [Lib.atoi]
  | cons b r =>
    have hle : 10 ^ r.length ≤ 10 ^ (b :: r).length := Nat.pow_le_pow_right (by omega) (by simp)
    have hP := hp (b :: r).length
    have hQ : ∀ m, Lib.decNat r = some m → m < 10 ^ r.length := fun m h => decNat_lt h
    have hR : ∀ m, Lib.decNat (b :: r) = some m → m < 10 ^ (b :: r).length := fun m h => decNat_lt h
    generalize 10 ^ (b :: r).length = P at *
    generalize 10 ^ r.length = Q at *
    simp only [Lib.atoi]
    split
    · cases h : Lib.decNat r with
      | none => simp only [Option.map_none, Option.getD_none]; omega
      | some m => simp only [Option.map_some, Option.getD_some]; omega
    · split
      · cases h : Lib.decNat r with
        | none => simp only [Option.map_none, Option.getD_none]; omega
        | some m => have := hQ m h; simp only [Option.map_some, Option.getD_some]; omega
      · cases h : Lib.decNat (b :: r) with
        | none => simp only [Option.map_none, Option.getD_none]; omega
        | some m => have := hR m h; simp only [Option.map_some, Option.getD_some]; omega

/-- The book that nine bytes tell of. -/
def rlB (t : List UInt8) : Bk := ⟨max (atoV (t.take 3)) 0, bv t 3, bv t 4, bv t 5, max (atoV ((t.take 8).drop 6)) 0, 0, 0, 0⟩
def rlOk (t : List UInt8) : Bool := (sm (rlB t).a && (sm (rlB t).b && sm (rlB t).c)) && !decide ((rlB t).vol = 0) && decide (labT (rlB t) = t)
/-- What a text tells, as a label. -/
def rlR (t : List UInt8) : Bk × Bool :=
  if t.length ≠ 9 then (bk0, false) else if (sm (rlB t).a && (sm (rlB t).b && sm (rlB t).c)) && !decide ((rlB t).vol = 0) then (rlB t, decide (labT (rlB t) = t)) else (bk0, false)

theorem rlB_rng (t : List UInt8) (hl : t.length = 9) : (0 ≤ (rlB t).cl ∧ (rlB t).cl ≤ 999) ∧ (0 ≤ (rlB t).vol ∧ (rlB t).vol ≤ 99) := by
  have h1 := atoV_lt (t.take 3)
  have h2 := atoV_lt ((t.take 8).drop 6)
  rw [show (t.take 3).length = 3 by simp; omega] at h1
  rw [show ((t.take 8).drop 6).length = 2 by simp; omega] at h2
  simp only [rlB]
  have e3 : ((10 ^ 3 : Nat) : Int) = 1000 := rfl
  have e2 : ((10 ^ 2 : Nat) : Int) = 100 := rfl
  rw [e3] at h1
  rw [e2] at h2
  omega

theorem amax0 (x : Int) : (if (0 : Int) > x then 0 else x) = max x 0 := by
  split <;> omega

noncomputable def X64 : Fx := ⟨Tryz.prog, tys, 64, Tryz.f64, [0]⟩
theorem X64_ok : X64.Ok := ⟨Tryz.func64, tys_ok⟩
theorem readLabel_ct (t : List UInt8) : CtA ambS Tryz.prog 64 [str t] (.tup [bkA (rlR t).1, bo (rlR t).2]) [] := by
  refine CtA.intro ambS X64 X64_ok rfl (by kernel_rfl) rfl rfl fun g hA hg => ?_
  repeat (refine Run.go rfl ?_)
  refine Run.cond rfl (fun h => ?_) (fun h => ?_)
  · have h : t.length ≠ 9 := by
      have h : ¬ (⟨t.toArray⟩ : ByteArray).size = 9 := by
        simp only [bne_iff_ne, ne_eq] at h
        omega
      rwa [bsz] at h
    repeat (refine Run.go rfl ?_)
    refine Run.val rfl rfl rfl (ValOk.build (cs := (bkA bk0).cells) rfl rfl rfl rfl rfl) rfl ?_
    repeat (refine Run.go rfl ?_)
    refine Run.ret (r := .tup [bkA bk0, bo false]) hg (by kernel_rfl) ?_
    rw [rlR, if_pos h]
  · have h : t.length = 9 := by
      have h : (⟨t.toArray⟩ : ByteArray).size = 9 := by
        simp only [bne_eq_false_iff_eq] at h
        omega
      rwa [bsz] at h
    obtain ⟨hcl, hvl⟩ := rlB_rng t h
    have e1 : rlR t = if (sm (rlB t).a && (sm (rlB t).b && sm (rlB t).c)) && !decide ((rlB t).vol = 0) then (rlB t, decide (labT (rlB t) = t)) else (bk0, false) := by rw [rlR, if_neg (by omega)]
    rw [e1] at hg
    clear e1
    match t, h with
    | [c0, c1, c2, c3, c4, c5, c6, c7, c8], _ =>
    have ecl : IntKind.i16.wrap (if (0 : Int) > atoV [c0, c1, c2] then 0 else atoV [c0, c1, c2]) = (rlB [c0, c1, c2, c3, c4, c5, c6, c7, c8]).cl := by
      rw [amax0]; exact wrap_i16 (by have := hcl.1; simp only [rlB] at this; exact Int.le_trans (by omega) this) (by have := hcl.2; simp only [rlB] at this; exact Int.le_trans this (by omega))
    have evl : IntKind.i16.wrap (if (0 : Int) > atoV [c6, c7] then 0 else atoV [c6, c7]) = (rlB [c0, c1, c2, c3, c4, c5, c6, c7, c8]).vol := by
      rw [amax0]; exact wrap_i16 (by have := hvl.1; simp only [rlB] at this; exact Int.le_trans (by omega) this) (by have := hvl.2; simp only [rlB] at this; exact Int.le_trans this (by omega))
    repeat (refine Run.go rfl ?_)
    refine Run.val rfl rfl rfl (ValOk.scut [c0, c1, c2, c3, c4, c5, c6, c7, c8] [c0, c1, c2] rfl rfl rfl rfl rfl rfl (by decide) (by decide) (by simp) rfl) rfl ?_
    refine Run.csA rfl ((Atoi_ctA [c0, c1, c2] (by simp)).at hA) rfl rfl ?_
    repeat (refine Run.go rfl ?_)
    refine Run.val rfl rfl rfl (ValOk.asgTop rfl) rfl ?_
    repeat (refine Run.go rfl ?_)
    refine Run.val rfl rfl rfl (ValOk.scut [c0, c1, c2, c3, c4, c5, c6, c7, c8] [c6, c7] rfl rfl rfl rfl rfl rfl (by decide) (by decide) (by simp) rfl) rfl ?_
    refine Run.csA rfl ((Atoi_ctA [c6, c7] (by simp)).at hA) rfl rfl ?_
    repeat (refine Run.go rfl ?_)
    refine Run.val rfl rfl rfl (ValOk.asgTop rfl) rfl ?_
    repeat (refine Run.go rfl ?_)
    refine Run.val rfl rfl rfl (ValOk.scut [c0, c1, c2, c3, c4, c5, c6, c7, c8] [c3, c4, c5] rfl rfl rfl rfl rfl rfl (by decide) (by decide) (by simp) rfl) rfl ?_
    refine Run.s2b [c3, c4, c5] rfl rfl rfl rfl rfl rfl rfl rfl (by simp) rfl ?_
    refine Run.val rfl rfl rfl (ValOk.s2ap rfl rfl rfl rfl rfl (by simp) (by simp)) rfl ?_
    repeat (refine Run.go rfl ?_)
    refine Run.val rfl rfl rfl (ValOk.build (cs := [i16 (IntKind.i16.wrap (if (0 : Int) > atoV [c0, c1, c2] then 0 else atoV [c0, c1, c2])), u8 (c3.toNat : Int), u8 (c4.toNat : Int), u8 (c5.toNat : Int), i16 (IntKind.i16.wrap (if (0 : Int) > atoV [c6, c7] then 0 else atoV [c6, c7])), i16 0, i16 0, i16 0]) rfl rfl rfl rfl rfl) rfl ?_
    rw [ecl, evl]
    generalize hB : rlB [c0, c1, c2, c3, c4, c5, c6, c7, c8] = x at hcl hvl hg
    have hcs : [i16 x.cl, u8 (c3.toNat : Int), u8 (c4.toNat : Int), u8 (c5.toNat : Int), i16 x.vol, i16 0, i16 0, i16 0] = (bkA x).cells := by rw [← hB]; rfl
    rw [hcs]
    iterate 3 (refine Run.go rfl ?_)
    refine Run.le (st' := ⟨[(0, str [c0, c1, c2, c3, c4, c5, c6, c7, c8]), (2, .bp (2, 0) 0), (8, .bp (8, 0) 0), (3, bo false)], [((2, 0), .box (bkA bk0).cells), ((8, 0), .box (bkA x).cells)]⟩) (St.Le.mk' ⟨rfl, rfl, rfl, rfl, trivial⟩ ⟨rfl, rfl, trivial⟩) ?_
    refine Run.freezeBox 8 (8, 0) (bkA x).cells rfl rfl rfl rfl ?_
    repeat (refine Run.go rfl ?_)
    refine Run.val rfl rfl rfl (ValOk.cutArr (ys := [x.a, x.b, x.c].map u8) rfl rfl rfl rfl rfl rfl rfl rfl rfl (by decide)) rfl ?_
    refine Run.cs rfl (areAllBy0_ct [x.a, x.b, x.c] true _ sm (by simp) fun y _ => isSmall_ct y) rfl rfl ?_
    repeat (refine Run.go rfl ?_)
    have esm : [x.a, x.b, x.c].all sm = (sm x.a && (sm x.b && sm x.c)) := by simp
    rw [esm]
    refine Run.bool 41 rfl (fun hs => ?_) (fun hs => ?_)
    · have hs : (sm x.a && (sm x.b && sm x.c)) = false := by
        revert hs
        cases (sm x.a && (sm x.b && sm x.c)) <;> simp
      repeat (refine Run.go rfl ?_)
      refine Run.cond rfl (fun _ => ?_) (fun h => by simp at h)
      repeat (refine Run.go rfl ?_)
      refine Run.val rfl rfl rfl (ValOk.build (cs := (bkA bk0).cells) rfl rfl rfl rfl rfl) rfl ?_
      repeat (refine Run.go rfl ?_)
      refine Run.ret (r := .tup [bkA bk0, bo false]) hg (by kernel_rfl) ?_
      rw [hs]
      rfl
    · have hs : (sm x.a && (sm x.b && sm x.c)) = true := by
        revert hs
        cases (sm x.a && (sm x.b && sm x.c)) <;> simp
      repeat (refine Run.go rfl ?_)
      refine Run.cond rfl (fun hv => ?_) (fun hv => ?_)
      · have hv : x.vol = 0 := by simpa using hv
        repeat (refine Run.go rfl ?_)
        refine Run.val rfl rfl rfl (ValOk.build (cs := (bkA bk0).cells) rfl rfl rfl rfl rfl) rfl ?_
        repeat (refine Run.go rfl ?_)
        refine Run.ret (r := .tup [bkA bk0, bo false]) hg (by kernel_rfl) ?_
        rw [hs, decide_eq_true hv]
        rfl
      · have hv : ¬ x.vol = 0 := by simpa using hv
        rw [hs, decide_eq_false hv] at hg
        simp only [Bool.not_false, Bool.and_self, if_true] at hg
        have hlb : lbOk x := by
          simp only [Bool.and_eq_true] at hs
          exact ⟨hcl, ⟨hs.1, hs.2.1, hs.2.2⟩, hvl⟩
        repeat (refine Run.go rfl ?_)
        refine Run.drawI (fun D => ⟨[(0, str [c0, c1, c2, c3, c4, c5, c6, c7, c8]), (2, .bp (2, 0) 0), (8, .rp (bkA x).cells 0), (47, bif D 0 then bkA x else .top), (48, bif D 1 then bkA x else .top), (49, bif D 2 then str (labT x) else .top), (50, bif D 3 then str [c0, c1, c2, c3, c4, c5, c6, c7, c8] else .top), (51, bif D 4 then bo ((⟨(labT x).toArray⟩ : ByteArray).toList == (⟨[c0, c1, c2, c3, c4, c5, c6, c7, c8].toArray⟩ : ByteArray).toList) else .top), (3, bif D 6 then bo ((⟨(labT x).toArray⟩ : ByteArray).toList == (⟨[c0, c1, c2, c3, c4, c5, c6, c7, c8].toArray⟩ : ByteArray).toList) else bo false)], [((2, 0), (bif D 5 then .box (bkA x).cells else .box (bkA bk0).cells))]⟩) (by decide +kernel) (by decide +kernel) ?_ ?_ fun k' => ⟨?_, ?_, ?_, ?_, ?_, ?_, ?_, trivial⟩
        · exact St.Le.mk' ⟨rfl, rfl, rfl, rfl, rfl, rfl, rfl, rfl, rfl, trivial⟩ ⟨rfl, trivial⟩
        rotate_left
        · intro D hid h0 hp hs rest hK
          obtain ⟨d5, d6, -⟩ : AllD D false [5, 6] := ideal_sub hs (by decide +kernel)
          simp only [d5, d6, h0, cond_true, cond_false]
          refine Run.go rfl ?_
          refine Run.le ?_ hK
          simp only [d5, d6, h0, Nat.reduceBEq, Bool.false_or, Bool.true_or, cond_true, cond_false]
          exact St.Le.mk' ⟨rfl, rfl, rfl, rfl, rfl, rfl, rfl, rfl, rfl, trivial⟩ ⟨rfl, trivial⟩
        · intro D hid h0 hp hs rest hK
          obtain ⟨d2, d6, -⟩ : AllD D false [2, 6] := ideal_sub hs (by decide +kernel)
          simp only [d2, d6, h0, cond_true, cond_false]
          refine Run.go rfl ?_
          refine Run.le ?_ hK
          simp only [d2, d6, h0, Nat.reduceBEq, Bool.false_or, Bool.true_or, cond_true, cond_false]
          exact St.Le.mk' ⟨rfl, rfl, rfl, rfl, rfl, rfl, rfl, rfl, rfl, trivial⟩ ⟨rfl, trivial⟩
        · intro D hid h0 hp hs rest hK
          obtain ⟨d1, -⟩ : AllD D true [1] := ideal_sub hp (by decide +kernel)
          obtain ⟨d4, d5, d6, -⟩ : AllD D false [4, 5, 6] := ideal_sub hs (by decide +kernel)
          simp only [d1, d4, d5, d6, h0, cond_true, cond_false]
          refine Run.csA rfl ((labelOf_ct x hlb).at (ambS_T hA)) rfl rfl ?_
          refine Run.le ?_ hK
          simp only [d1, d4, d5, d6, h0, Nat.reduceBEq, Bool.false_or, Bool.true_or, cond_true, cond_false]
          exact St.Le.mk' ⟨rfl, rfl, rfl, rfl, rfl, rfl, rfl, rfl, rfl, trivial⟩ ⟨rfl, trivial⟩
        · intro D hid h0 hp hs rest hK
          obtain ⟨d4, d6, -⟩ : AllD D false [4, 6] := ideal_sub hs (by decide +kernel)
          simp only [d4, d6, h0, cond_true, cond_false]
          refine Run.go rfl ?_
          refine Run.le ?_ hK
          simp only [d4, d6, h0, Nat.reduceBEq, Bool.false_or, Bool.true_or, cond_true, cond_false]
          exact St.Le.mk' ⟨rfl, rfl, rfl, rfl, rfl, rfl, rfl, rfl, rfl, trivial⟩ ⟨rfl, trivial⟩
        · intro D hid h0 hp hs rest hK
          obtain ⟨d2, d3, -⟩ : AllD D true [2, 3] := ideal_sub hp (by decide +kernel)
          obtain ⟨d6, -⟩ : AllD D false [6] := ideal_sub hs (by decide +kernel)
          simp only [d2, d3, d6, h0, cond_true, cond_false]
          refine Run.go rfl ?_
          refine Run.le ?_ hK
          simp only [d2, d3, d6, h0, Nat.reduceBEq, Bool.false_or, Bool.true_or, cond_true, cond_false]
          exact St.Le.mk' ⟨rfl, rfl, rfl, rfl, rfl, rfl, rfl, rfl, rfl, trivial⟩ ⟨rfl, trivial⟩
        · intro D hid h0 hp hs rest hK
          obtain ⟨d0, d2, -⟩ : AllD D true [0, 2] := ideal_sub hp (by decide +kernel)
          obtain ⟨d6, -⟩ : AllD D false [6] := ideal_sub hs (by decide +kernel)
          simp only [d0, d2, d6, h0, cond_true, cond_false]
          refine Run.go rfl ?_
          refine Run.le ?_ hK
          simp only [d0, d2, d6, h0, Nat.reduceBEq, Bool.false_or, Bool.true_or, cond_true, cond_false]
          exact St.Le.mk' ⟨rfl, rfl, rfl, rfl, rfl, rfl, rfl, rfl, rfl, trivial⟩ ⟨rfl, trivial⟩
        · intro D hid h0 hp hs rest hK
          obtain ⟨d0, d1, d2, d3, d4, d5, -⟩ : AllD D true [0, 1, 2, 3, 4, 5] := ideal_sub hp (by decide +kernel)
          simp only [d0, d1, d2, d3, d4, d5, h0, cond_true, cond_false]
          refine Run.go rfl ?_
          refine Run.le ?_ hK
          simp only [d0, d1, d2, d3, d4, d5, h0, Nat.reduceBEq, Bool.false_or, Bool.true_or, cond_true, cond_false]
          exact St.Le.mk' ⟨rfl, rfl, rfl, rfl, rfl, rfl, rfl, rfl, rfl, trivial⟩ ⟨rfl, trivial⟩
        repeat (refine Run.go rfl ?_)
        have eq : ((⟨(labT x).toArray⟩ : ByteArray).toList == (⟨[c0, c1, c2, c3, c4, c5, c6, c7, c8].toArray⟩ : ByteArray).toList) = decide (labT x = [c0, c1, c2, c3, c4, c5, c6, c7, c8]) := by
          rw [ByteArray.toList_mk, ByteArray.toList_mk]
          generalize labT x = l
          generalize [c0, c1, c2, c3, c4, c5, c6, c7, c8] = m
          by_cases h : l = m <;> simp [h]
        rw [eq]
        exact Run.ret (r := .tup [bkA x, bo (decide (labT x = [c0, c1, c2, c3, c4, c5, c6, c7, c8]))]) hg (by kernel_rfl) rfl
end Go.Proofs.YtilomajfcjpmnaaGreatDoor
