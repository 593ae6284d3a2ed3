/- Contracts of the program's functions, and what follows from them. -/
import Derived.Test.YtenknlnnnicdeaaGreatDoorK26
import Derived.Test.YtenknlnnnicdeaaGreatDoorE14
import Derived.Test.YtenknlnnnicdeaaGreatDoorMF
set_option linter.unusedVariables false
set_option maxRecDepth 100000
set_option linter.unusedSimpArgs false
namespace Go.Proofs.YtenknlnnnicdeaaGreatDoor
open Go Go.Av

/-! The law of stocks. -/

theorem lwu8 {n : Int} (h : (Lit.int .u8 n).wf = true) : 0 ≤ n ∧ n ≤ 255 := by
  simpa [Lit.wf, IntKind.min, IntKind.max, IntKind.signed, IntKind.bits] using h
theorem vBs_ok {l : List Bk} (hl : l.length ≤ 60) (h : ∀ b ∈ l, bOk b) : vBs l = true := by
  rw [vBs, decide_eq_true hl, Bool.true_and, List.all_eq_true]
  exact fun b hb => (h b hb).2
theorem br_frz (L : List Bk) (c : Int) : (bR (L, c)).frz = .tup [.ro 8 false (L.map bkA), i64 c] := by
  show AV.tup [.ro 8 false (AV.frzL (L.map bkA)), i64 c] = _
  rw [frzB]
theorem br_rf (L : List Bk) (c : Int) : (bR (L, c)).rf = true := by
  simp only [bR, AV.rf, AV.rfL, rfB]
  rfl
theorem ls_frz (L : List Int) (c : Int) : (lsR (L, c)).frz = .tup [.ro 1 false (L.map i64), i64 c] := by
  show AV.tup [.ro 1 false (AV.frzL (L.map i64)), i64 c] = _
  rw [frz64]
theorem ls_rf (L : List Int) (c : Int) : (lsR (L, c)).rf = true := by
  simp only [lsR, AV.rf, AV.rfL, rf64]
  rfl

def mvV (x : Int × Int) : List Value := [.int .i16 x.1, .int .i16 x.2]
def mvRng (x : Int × Int) : Prop := i16r x.1 ∧ i16r x.2
theorem mv_key (x : Int × Int) (hr : mvRng x) : ∃ l, keyOf Tryz.prog 49 (.agg (mvV x).toArray) = some l := by
  obtain ⟨r0, r1⟩ := hr
  have e0 := i16_wf r0
  have e1 := i16_wf r1
  have u0 := Tryz.underlying49
  have u1 := Tryz.underlying44
  have hk : Tryz.prog.keyType 49 = true := by kernel_rfl
  have hf : (Value.agg (mvV x).toArray).formed Tryz.prog 49 = true := by kernel_rfl
  have c0 : Tryz.prog.cellsOf 49 = 2 := by kernel_rfl
  have c1 : Tryz.prog.cellsOf 44 = 1 := by kernel_rfl
  obtain ⟨N, hN⟩ : ∃ N, Tryz.prog.types.size + 1 = N + 4 := ⟨Tryz.prog.types.size - 3, by kernel_rfl⟩
  refine ⟨.string (keyBytes [.int .i16 x.1, .int .i16 x.2]), ?_⟩
  unfold keyOf
  rw [u0]
  simp only [hk, hf, Bool.and_self, if_true, hN]
  simp [Program.keyLits, u0, u1, c0, c1, mvV, Value.cells, e0, e1, List.range_succ]
theorem mvK : KTy Tryz.prog 49 mvV mvRng := by
  refine KTy.of 5 5 (by decide) (by kernel_rfl) (by kernel_rfl) (by rw [Tryz.underlying49]) mv_key ?_ (by kernel_rfl)
  intro a b h
  cases a; cases b
  simp [mvV] at h
  obtain ⟨h1, h2⟩ := h
  simp [h1, h2]

theorem slip_rng {a b : List Bk} {R : (Int × Int) × Int} (hb : b.length ≤ 60) (h : Slip a b R) : mvRng R.1 := by
  have z : mvRng ((0 : Int), (0 : Int)) := ⟨by simp [i16r], by simp [i16r]⟩
  by_cases hc : scode a b = 0
  · by_cases e : a = b
    · rw [h.h1 hc e]
      exact z
    · rcases first_pair b.length (fun i j => mvL b i j = a) with hn | ⟨i, j, h1, h2, h3, h4⟩
      · rw [h.h3 hc e fun i j hi hj => hn i j hi hj]
        exact z
      · rw [h.h2 hc e i j h1 h2 h3 h4]
        exact ⟨by show i16r (i : Int); unfold i16r; omega, by show i16r (j : Int); unfold i16r; omega⟩
  · rw [h.h0 hc]
    exact z
theorem swap_rng {a b : List Bk} (hb : b.length ≤ 60) : mvRng (osRes a b).1 := by
  have z : mvRng ((0 : Int), (0 : Int)) := ⟨by simp [i16r], by simp [i16r]⟩
  by_cases h0 : (osRes a b).2 = 0
  · obtain ⟨i, j, h1, h2, h3, h4, h5⟩ := swap_ok h0
    rw [h4]
    exact ⟨by show i16r (i : Int); unfold i16r; omega, by show i16r (j : Int); unfold i16r; omega⟩
  · unfold osRes at h0 ⊢
    split
    · rename_i hc
      rw [if_pos hc] at h0
      generalize dfs a b b.length = D at h0 ⊢
      match D, h0 with
      | [i, j], h0 => exact absurd rfl h0
      | [], _ => exact z
      | [_], _ => exact z
      | _ :: _ :: _ :: _, _ => exact z
    · exact z

/-- What the functions of stocks answer for a sorted catalogue and a shelf of valid books. -/
structure SkOk (a b m f w : List Bk) (s : Bool) : Prop where
  st : stCode a b = 0
  mis : misRes a b = (m, 0)
  for' : forRes a b = (f, 0)
  ss : ssRes a b = (s, 0)
  sse : s = (decide (m.length = 0) && decide (f.length = 0))
  op : oopR b = (oopI b, 0)
  wo : woRes b (oopI b) = (w, 0)
  wl : w.length + (oop b).length = b.length
  wv : vBs w = true
  ws : srt w = true
  wm : ∀ x ∈ w, x ∈ b
  sc : scode a b = if s = true then 0 else 8
  cnt : ∀ x, (((b ++ m).count x : Nat) : Int) - (f.count x : Nat) = (a.count x : Nat)
  ml : m.length ≤ a.length
  fl : f.length ≤ b.length
  mm : ∀ x ∈ m, x ∈ a
  fm : ∀ x ∈ f, x ∈ b
theorem skOk {a b : List Bk} (ha : a.length ≤ 60) (hb : b.length ≤ 60) (hao : ∀ x ∈ a, bOk x) (hbo : ∀ x ∈ b, bOk x) (hs : srt a = true) : ∃ m f w s, SkOk a b m f w s := by
  have va := vBs_ok ha hao
  have vb := vBs_ok hb hbo
  have hst : stCode a b = 0 := by rw [stCode, va, vb]; show (if srt a = true then (0 : Int) else 4) = 0; rw [if_pos hs]
  obtain ⟨w1, w2, w3⟩ := wo_ok vb
  refine ⟨more a b a.length, more b a b.length, wo b (oopI b) b.length, sameP a b, hst, by rw [misRes, if_pos hst], by rw [forRes, if_pos hst], by rw [ssRes, if_pos hst], ?_, by rw [oopR, if_pos vb]; rfl, w1, w2, w3, kept_srt b, fun x hx => wo_mem hx, ?_, stock_cnt' a b,
    more_len _ _ _, more_len _ _ _, fun x hx => mr_mem hx, fun x hx => mr_mem hx⟩
  · have := sameP_iff a b
    rw [Bool.eq_iff_iff, this]
    simp [List.length_eq_zero_iff]
  · rw [scode, if_pos hst]

/-- Slips, swaps and right places. -/
structure SlOk (a b : List Bk) (s : Bool) (R O : (Int × Int) × Int) (x c : Int) (P : List Int) : Prop where
  sl : Slip a b R
  os : osRes a b = O
  fs : fsRes a b = (x, c)
  rp : rpRes a b = (P, c)
  ce : (c == 0) = s
  c8 : s = false → c = 8 ∧ R.2 = 8 ∧ O.2 = 8
  rr : mvRng R.1
  ro : mvRng O.1
  pl : P.length ≤ b.length
  rs : s = true → x = ((oop b).length : Nat) ∧ P.length = b.length ∧ ∀ i, i < b.length → ∃ k : Nat, k < a.length ∧ P[i]? = some (k : Int) ∧ a.getD k bk0 = b.getD i bk0
  r0 : R.2 = 0 → ∃ i j : Nat, i < b.length ∧ j < b.length ∧ R.1 = ((i : Int), (j : Int)) ∧ mvL b i j = a
  o0 : O.2 = 0 → ∃ i j : Nat, i < b.length ∧ j < b.length ∧ i < j ∧ O.1 = ((i : Int), (j : Int)) ∧ sw b i j = a
theorem slOk {a b m f w : List Bk} {s : Bool} (hb : b.length ≤ 60) (hK : SkOk a b m f w s) : ∃ R O x c P, SlOk a b s R O x c P := by
  obtain ⟨R, hR⟩ := slip_ex a b
  have hsc := hK.sc
  refine ⟨R, osRes a b, (fsRes a b).1, scode a b, (rpRes a b).1, hR, rfl, ?_, ?_, ?_, ?_, slip_rng hb hR, swap_rng hb, rpRes_len a b, ?_, slip_ok hR, swap_ok⟩
  · unfold fsRes
    split
    · rename_i h; rw [h]
    · rfl
  · unfold rpRes
    split
    · rename_i h; rw [h]
    · rfl
  · rw [hsc]
    cases s <;> rfl
  · rintro rfl
    have h8 : scode a b = 8 := hsc
    have hn : scode a b ≠ 0 := by rw [h8]; decide
    refine ⟨h8, by rw [hR.h0 hn]; exact h8, ?_⟩
    rw [osRes, if_neg hn]
    exact h8
  · rintro rfl
    have h0 : scode a b = 0 := hsc
    have hm := (ms_all (scode_0 h0) b.length (Nat.le_refl _)).1
    rw [fsRes, if_pos h0, rpRes, if_pos h0]
    exact ⟨rfl, (ms_len a b lkE b.length).2.1 hm, fun i hi => ms_right b.length (Nat.le_refl _) hm i hi⟩

theorem s_1 {s : Bool} {x y : Nat} (hs : s = (decide (x = 0) && decide (y = 0))) (h : ((x : Int) == 0) = true) (h2 : (s != ((y : Int) == 0)) = true) : False := by
  have hx : x = 0 := by simpa using h
  by_cases hy : y = 0 <;> simp [hs, hx, hy] at h2
theorem s_2 {s : Bool} {x y : Nat} (hs : s = (decide (x = 0) && decide (y = 0))) (h : ((x : Int) == 0) = false) (h2 : (s != false) = true) : False := by
  have hx : x ≠ 0 := by simpa using h
  simp [hs, hx] at h2

noncomputable def X3 : Fx := ⟨Tryz.prog, tys, 3, Tryz.f3, [0, 1]⟩
theorem X3_ok : X3.Ok := ⟨Tryz.func3, tys_ok⟩
set_option maxHeartbeats 8000000 in
theorem lawStock_ct (ex ex' : Bool) (C C' : List Int) (hb : ∀ x ∈ C, 0 ≤ x ∧ x ≤ 255) (hb' : ∀ x ∈ C', 0 ≤ x ∧ x ≤ 255) : CtA ambT Tryz.prog 3 [.ro 1 ex (C.map u8), .ro 1 ex' (C'.map u8)] (bo true) [] := by
  have hml : ∀ D : List Int, (D.map u8).length = D.length := fun D => List.length_map ..
  refine CtA.intro ambT X3 X3_ok rfl (by kernel_rfl) rfl rfl fun g hA hg => ?_
  repeat (refine Run.go rfl ?_)
  refine Run.cs rfl (f6big_ct ex (C.map u8)) rfl rfl ?_
  repeat (refine Run.go rfl ?_)
  refine Run.bool 54 rfl (fun h => ?_) (fun hB1 => ?_)
  · repeat (refine Run.go rfl ?_)
    refine Run.cond rfl (fun _ => ?_) (fun h => by simp at h)
    repeat (refine Run.go rfl ?_)
    exact Run.ret hg rfl rfl
  repeat (refine Run.go rfl ?_)
  refine Run.cs rfl (f6big_ct ex' (C'.map u8)) rfl rfl ?_
  repeat (refine Run.go rfl ?_)
  refine Run.cond rfl (fun _ => ?_) (fun hB2 => ?_)
  · repeat (refine Run.go rfl ?_)
    exact Run.ret hg rfl rfl
  have hB1 : decide (4096 < (C.map u8).length) = false := hB1
  have hB2 : decide (4096 < (C'.map u8).length) = false := hB2
  simp only [decide_eq_false_iff_not, hml] at hB1 hB2
  have hC : C.length ≤ 1048576 := by omega
  have hC' : C'.length ≤ 1048576 := by omega
  obtain ⟨L, hL, hLb, cL⟩ := P6List_ct ex C hC hb
  obtain ⟨q1, q2, q3⟩ := srtL_ok L (fun x hx => (hLb x hx).1) [] List.Pairwise.nil (by simp)
  have cS := P6Sorted_ct L false (fun x hx => (hLb x hx).1) (by omega)
  have q1 : Srt (srtL L) := q1
  have q2 : (srtL L).length = L.length := by simpa [srtL] using q2
  have q3 : ∀ y ∈ srtL L, bOk y := fun y hy => by
    rcases q3 y hy with h | h
    · exact hLb y h
    · simp at h
  have q4 := Srt_srt q1 (fun x hx => (q3 x hx).1)
  generalize srtL L = a at q1 q2 q3 q4 cS
  have ha11 : a.length ≤ 11 := by omega
  obtain ⟨b, hbl, hbo, cB⟩ := P6Shelf_ct ex' false C' hC' hb' a ha11 q3
  have har : a.length ≤ 1048576 ∧ ∀ x ∈ a, bkRng x := ⟨by omega, fun x hx => (q3 x hx).1⟩
  have hbr : b.length ≤ 1048576 ∧ ∀ x ∈ b, bkRng x := ⟨by omega, fun x hx => (hbo x hx).1⟩
  have hvb := vBs_ok (l := b) (by omega) hbo
  obtain ⟨m, f, w, s, hK⟩ := skOk (a := a) (b := b) (by omega) (by omega) q3 hbo q4
  have hmr : m.length ≤ 1048576 ∧ ∀ x ∈ m, bkRng x := ⟨by have := hK.ml; omega, fun x hx => har.2 x (hK.mm x hx)⟩
  have hfr : f.length ≤ 1048576 ∧ ∀ x ∈ f, bkRng x := ⟨by have := hK.fl; omega, fun x hx => hbr.2 x (hK.fm x hx)⟩
  have cMi := implMissingBooks_ct a b false false har hbr
  have cMs := specMissingBooks_ct a b false false har hbr
  rw [hK.mis] at cMi cMs
  have cFi := implForeignBooks_ct a b false false har hbr
  have cFs := specForeignBooks_ct a b false false har hbr
  rw [hK.for'] at cFi cFs
  have cSS := implSameStock_ct a b false false har hbr
  rw [hK.ss] at cSS
  have cOi := implOutOfPlace_ct b false hbr
  have cOs := specOutOfPlace_ct b false hbr
  rw [hK.op] at cOi cOs
  have hol := oop_le b
  have hoI : (oopI b).length = (oop b).length := List.length_map ..
  have cW := implWithoutBooks_ct b (oopI b) false false hbr (by omega)
  rw [hK.wo] at cW
  have hwl := hK.wl
  have cI := implIsSorted_ct w false (by omega) hK.wv
  rw [hK.ws] at cI
  have cLM := leastMoves_ct b false hbr hvb
  have cRi := implReportOf_ct a b false false har hbr
  have cRs := specReportOf_ct a b false false har hbr
  rw [rpA, if_pos hK.st] at cRi cRs
  repeat (refine Run.go rfl ?_)
  refine Run.cs rfl cL rfl (rfB _) ?_
  repeat (refine Run.go rfl ?_)
  refine Run.freeze (v' := .ro 8 false (L.map bkA)) 59 rfl rfl (by show AV.ro _ _ (AV.frzL _) = _; rw [frzB]) ?_
  refine Run.cs rfl cS rfl (rfB _) ?_
  refine Run.freeze (v' := .ro 8 false (a.map bkA)) 60 rfl rfl (by show AV.ro _ _ (AV.frzL _) = _; rw [frzB]) ?_
  repeat (refine Run.go rfl ?_)
  refine Run.cs rfl cB rfl (rfB _) ?_
  refine Run.freeze (v' := .ro 8 false (b.map bkA)) 63 rfl rfl (by show AV.ro _ _ (AV.frzL _) = _; rw [frzB]) ?_
  repeat (refine Run.go rfl ?_)
  refine Run.cs rfl cMi rfl (br_rf _ _) ?_
  refine Run.freeze 67 rfl rfl (br_frz _ _) ?_
  repeat (refine Run.go rfl ?_)
  refine Run.cs rfl cMs rfl (br_rf _ _) ?_
  refine Run.freeze 73 rfl rfl (br_frz _ _) ?_
  repeat (refine Run.go rfl ?_)
  refine Run.cs rfl cFi rfl (br_rf _ _) ?_
  refine Run.freeze 79 rfl rfl (br_frz _ _) ?_
  repeat (refine Run.go rfl ?_)
  refine Run.cs rfl cFs rfl (br_rf _ _) ?_
  refine Run.freeze 85 rfl rfl (br_frz _ _) ?_
  repeat (refine Run.go rfl ?_)
  refine Run.cs rfl cSS rfl rfl ?_
  repeat (refine Run.go rfl ?_)
  refine Run.cs rfl cOi rfl (ls_rf _ _) ?_
  refine Run.freeze 96 rfl rfl (ls_frz _ _) ?_
  repeat (refine Run.go rfl ?_)
  refine Run.cs rfl cOs rfl (ls_rf _ _) ?_
  refine Run.freeze 101 rfl rfl (ls_frz _ _) ?_
  repeat (refine Run.go rfl ?_)
  refine Run.cs rfl cW rfl (br_rf _ _) ?_
  refine Run.freeze 107 rfl rfl (br_frz _ _) ?_
  repeat (refine Run.go rfl ?_)
  refine Run.cs rfl cI rfl rfl ?_
  repeat (refine Run.go rfl ?_)
  refine Run.cs rfl cLM rfl rfl ?_
  repeat (refine Run.go rfl ?_)
  refine Run.csA rfl (cRi.at hA) rfl rfl ?_
  repeat (refine Run.go rfl ?_)
  refine Run.cs rfl cRs rfl rfl ?_
  repeat (refine Run.go rfl ?_)
  refine Run.cs rfl (specSameBooks_ct m m false false hmr hmr) rfl rfl ?_
  rw [decide_eq_true rfl]
  repeat (refine Run.go rfl ?_)
  refine Run.cs rfl (specSameBooks_ct f f false false hfr hfr) rfl rfl ?_
  rw [decide_eq_true rfl]
  repeat (refine Run.go rfl ?_)
  have hlA : ((a.map bkA).length : Nat) = a.length := List.length_map ..
  have hlB : ((b.map bkA).length : Nat) = b.length := List.length_map ..
  have hlM : ((m.map bkA).length : Nat) = m.length := List.length_map ..
  have hlF : ((f.map bkA).length : Nat) = f.length := List.length_map ..
  have hlW : ((w.map bkA).length : Nat) = w.length := List.length_map ..
  have hlO : (((oopI b).map i64).length : Nat) = (oop b).length := (List.length_map ..).trans hoI
  have hse : s = (decide ((m.map bkA).length = 0) && decide ((f.map bkA).length = 0)) := by rw [hlM, hlF]; exact hK.sse
  refine Run.regTo ⟨[(5, .ro 8 false (a.map bkA)), (6, .ro 8 false (b.map bkA)), (9, .ro 8 false (m.map bkA)), (13, .ro 8 false (f.map bkA)), (15, bo s), (25, i64 ((oop b).length : Nat)), (236, bo false)], []⟩ (fun k' hN => ?_) ?_
  · refine Run.bool 169 rfl (fun h => ?_) (fun h => ?_)
    all_goals
      repeat (refine Run.go rfl ?_)
      refine Run.bool 176 rfl (fun h2 => ?_) (fun _ => ?_)
      · exfalso
        first | exact s_1 hse h h2 | exact s_2 hse h h2
      repeat (refine Run.go rfl ?_)
      refine Run.cs rfl (SameNumbers_ct (oopI b) (oopI b) false false (by omega)) rfl rfl ?_
      rw [decide_eq_true rfl]
      repeat (refine Run.go rfl ?_)
      refine Run.bool 205 rfl (fun h2 => ?_) (fun _ => ?_)
      · exfalso
        have h2 : ((((w.map bkA).length : Nat) : Int) != IntKind.i64.wrap ((((b.map bkA).length : Nat) : Int) - (((oopI b).map i64).length : Nat))) = true := h2
        rw [hlW, hlB, hlO, wrap_i64 (by omega) (by omega)] at h2
        simp at h2
        omega
      repeat (refine Run.go rfl ?_)
      refine Run.bool 223 rfl (fun h2 => ?_) (fun _ => ?_)
      · exfalso
        have h2 : ((((oop b).length : Nat) : Int) != (((oopI b).map i64).length : Nat)) = true := h2
        rw [hlO] at h2
        simp at h2
      repeat (refine Run.go rfl ?_)
      refine Run.of hN ⟨rfl, rfl, rfl, rfl, rfl, rfl, ?_, trivial⟩ trivial
      show bo _ = bo false
      simp
  repeat (refine Run.go rfl ?_)
  refine Run.cond rfl (fun h => by simp at h) (fun _ => ?_)
  repeat (refine Run.go rfl ?_)
  refine Run.buildSlice [] rfl rfl rfl rfl rfl rfl rfl rfl rfl rfl rfl rfl rfl rfl ?_
  refine Run.unpack 237 rfl rfl ?_
  repeat (refine Run.go rfl ?_)
  refine Run.appendr (ys := b.map bkA) rfl rfl rfl rfl rfl rfl rfl rfl rfl rfl rfl rfl rfl (oneC_bk b) (by show (_ + _) * 14 ≤ _; simp; omega) (by simp [capMax]; omega) rfl ?_
  refine Run.unpack 239 rfl rfl ?_
  repeat (refine Run.go rfl ?_)
  refine Run.appendr (ys := m.map bkA) rfl rfl rfl rfl rfl rfl rfl rfl rfl rfl rfl rfl rfl (oneC_bk m) (by show (_ + _) * 14 ≤ _; simp; omega) (by simp [capMax]; omega) rfl ?_
  obtain ⟨al, hal⟩ : ∃ al, al = b ++ m := ⟨_, rfl⟩
  have hcnt := hK.cnt
  rw [← hal] at hcnt
  have hall : al.length = b.length + m.length := by rw [hal, List.length_append]
  have halr : ∀ x ∈ al, bkRng x := fun x hx => by
    rw [hal] at hx
    rcases List.mem_append.1 hx with h | h
    · exact hbr.2 x h
    · exact hmr.2 x h
  have hlL : ((al.map bkA).length : Nat) = al.length := List.length_map ..
  refine Run.freeze (v' := .ro 8 false (al.map bkA)) 241 rfl rfl (by show AV.ro _ _ (AV.frzL _) = _; rw [hal, List.map_append, List.nil_append, ← List.map_append, frzB]; rfl) ?_
  repeat (refine Run.go rfl ?_)
  have hmL := hK.ml
  refine Run.loop (fun j : Nat => ⟨[(5, .ro 8 false (a.map bkA)), (6, .ro 8 false (b.map bkA)), (13, .ro 8 false (f.map bkA)), (15, bo s), (25, i64 ((oop b).length : Nat)), (31, .ro 8 false (al.map bkA)), (32, i64 (j : Nat))], []⟩) (fun j => j ≤ al.length) (fun j => al.length - j) 0 (by omega) ?_ ?_
  · exact St.Le.mk' ⟨rfl, rfl, rfl, rfl, rfl, rfl, rfl, trivial⟩ trivial
  intro j hj IH
  repeat (refine Run.go rfl ?_)
  refine Run.cond rfl (fun h => ?_) (fun h => ?_)
  · have hlt : j < al.length := by simpa using h
    obtain ⟨y, hy⟩ : ∃ y, y = al[j] := ⟨_, rfl⟩
    have hat : (al.map bkA)[((j : Nat) : Int).toNat]? = some (bkA y) := by simp [hlt, hy]
    have hyr : bkRng y := halr y (by rw [hy]; simp)
    have hc1 := hcnt y
    have hc2 : al.count y ≤ al.length := List.count_le_length ..
    have hc3 : f.count y ≤ f.length := List.count_le_length ..
    repeat (refine Run.go rfl ?_)
    refine Run.drawS ⟨[(5, .ro 8 false (a.map bkA)), (6, .ro 8 false (b.map bkA)), (13, .ro 8 false (f.map bkA)), (15, bo s), (25, i64 ((oop b).length : Nat)), (31, .ro 8 false (al.map bkA)), (32, i64 (j : Nat)), (267, bo false)], []⟩ rfl (by kernel_rfl) ?_ ?_
    · repeat (refine Quiet.go rfl ?_)
      refine Quiet.val rfl rfl (ValOk.idx (bkA y) rfl rfl rfl rfl rfl (by omega) hat) rfl ?_
      repeat (refine Quiet.go rfl ?_)
      refine Quiet.cs rfl rfl rfl rfl rfl (CountOf_ct al false y (by omega) halr hyr) rfl rfl ?_
      repeat (refine Quiet.go rfl ?_)
      refine Quiet.val rfl rfl (ValOk.idx (bkA y) rfl rfl rfl rfl rfl (by omega) hat) rfl ?_
      repeat (refine Quiet.go rfl ?_)
      refine Quiet.cs rfl rfl rfl rfl rfl (CountOf_ct f false y (by omega) hfr.2 hyr) rfl rfl ?_
      repeat (refine Quiet.go rfl ?_)
      refine Quiet.val rfl rfl (ValOk.idx (bkA y) rfl rfl rfl rfl rfl (by omega) hat) rfl ?_
      repeat (refine Quiet.go rfl ?_)
      refine Quiet.cs rfl rfl rfl rfl rfl (CountOf_ct a false y (by omega) har.2 hyr) rfl rfl ?_
      repeat (refine Quiet.go rfl ?_)
      refine Quiet.nil (St.Le.mk' ⟨rfl, rfl, rfl, rfl, rfl, rfl, rfl, ?_, trivial⟩ trivial)
      show bo (IntKind.i64.wrap (((al.count y : Nat) : Int) - ((f.count y : Nat) : Int)) != ((a.count y : Nat) : Int)) = bo false
      rw [wrap_i64 (by omega) (by omega), hc1]
      simp
    repeat (refine Run.go rfl ?_)
    refine Run.cond rfl (fun h => by simp at h) (fun _ => ?_)
    repeat (refine Run.go rfl ?_)
    refine Run.of (IH (j + 1) (by omega) (by omega)) ⟨rfl, rfl, rfl, rfl, rfl, rfl, ?_, trivial⟩ trivial
    show i64 _ = _
    rw [wrap_i64 (by omega) (by omega)]
    rfl
  clear IH
  repeat (refine Run.go rfl ?_)
  obtain ⟨R, O, x, c, P, hS⟩ := slOk (by omega) hK
  have cSi := implOneSlip_ct a b false false R hS.sl har hbr
  have cSs := specOneSlip_ct a b false false R hS.sl har hbr
  have cOwi := implOneSwap_ct a b false false har hbr
  have cOws := specOneSwap_ct a b false false har hbr
  rw [hS.os] at cOwi cOws
  have cFw := implFewestSlips_ct a b false false har hbr
  rw [hS.fs] at cFw
  have cPi := implRightPlaces_ct a b false false har hbr
  have cPs := specRightPlaces_ct a b false false har hbr
  rw [hS.rp] at cPi cPs
  have hPl := hS.pl
  have hR1 := hS.rr
  have hO1 := hS.ro
  have hc8 := hS.c8
  have hce := hS.ce
  have hrs := hS.rs
  have hr0 := hS.r0
  have ho0 := hS.o0
  clear hS
  obtain ⟨⟨Rf, Rt⟩, Rc⟩ := R
  obtain ⟨⟨Of, Ot⟩, Oc⟩ := O
  simp only at hR1 hO1 hc8 hr0 ho0
  refine Run.cs rfl cSi rfl rfl ?_
  repeat (refine Run.go rfl ?_)
  refine Run.cs rfl cSs rfl rfl ?_
  repeat (refine Run.go rfl ?_)
  refine Run.cs rfl cOwi rfl rfl ?_
  repeat (refine Run.go rfl ?_)
  refine Run.cs rfl cOws rfl rfl ?_
  repeat (refine Run.go rfl ?_)
  refine Run.cs rfl cFw rfl rfl ?_
  repeat (refine Run.go rfl ?_)
  refine Run.cs rfl cPi rfl (ls_rf _ _) ?_
  refine Run.freeze 301 rfl rfl (ls_frz _ _) ?_
  repeat (refine Run.go rfl ?_)
  refine Run.cs rfl cPs rfl (ls_rf _ _) ?_
  refine Run.freeze 307 rfl rfl (ls_frz _ _) ?_
  repeat (refine Run.go rfl ?_)
  refine Run.bool 313 rfl (fun h => by simp at h) (fun _ => ?_)
  repeat (refine Run.go rfl ?_)
  refine Run.val rfl rfl rfl (ValOk.neK (Rf, Rt) (Rf, Rt) rfl mvK rfl rfl hR1 hR1) rfl ?_
  repeat (refine Run.go rfl ?_)
  refine Run.bool 318 rfl (fun h => by simp at h) (fun _ => ?_)
  repeat (refine Run.go rfl ?_)
  refine Run.bool 323 rfl (fun h => by simp at h) (fun _ => ?_)
  repeat (refine Run.go rfl ?_)
  refine Run.val rfl rfl rfl (ValOk.neK (Of, Ot) (Of, Ot) rfl mvK rfl rfl hO1 hO1) rfl ?_
  repeat (refine Run.go rfl ?_)
  refine Run.bool 328 rfl (fun h => by simp at h) (fun _ => ?_)
  repeat (refine Run.go rfl ?_)
  refine Run.bool 333 rfl (fun h => by simp at h) (fun _ => ?_)
  repeat (refine Run.go rfl ?_)
  have cN := SameNumbers_ct P P false false (by omega)
  rw [decide_eq_true rfl] at cN
  refine Run.cs rfl cN rfl rfl ?_
  repeat (refine Run.go rfl ?_)
  have hcs : ((c == 0) != s) = false := by rw [hce]; simp
  refine Run.bool 345 rfl (fun h => by rw [show ((c == 0) != s) = true from h] at hcs; simp at hcs) (fun _ => ?_)
  repeat (refine Run.go rfl ?_)
  refine Run.cond rfl (fun h => by rw [show ((c == 0) != s) = true from h] at hcs; simp at hcs) (fun _ => ?_)
  repeat (refine Run.go rfl ?_)
  refine Run.cond rfl (fun h => ?_) (fun h => ?_)
  · have hs0 : s = false := by simpa using h
    obtain ⟨k1, k2, k3⟩ := hc8 hs0
    subst k1 k2 k3
    repeat (refine Run.go rfl ?_)
    exact Run.ret hg rfl rfl
  have hs1 : s = true := by simpa using h
  subst hs1
  obtain ⟨hx, hPb, hPr⟩ := hrs rfl
  have hlP : ((P.map i64).length : Nat) = P.length := List.length_map ..
  subst hx
  repeat (refine Run.go rfl ?_)
  refine Run.bool 366 rfl (fun h => by simp at h) (fun _ => ?_)
  repeat (refine Run.go rfl ?_)
  refine Run.cond rfl (fun h => ?_) (fun _ => ?_)
  · exfalso
    have h : ((((P.map i64).length : Nat) : Int) != (((b.map bkA).length : Nat) : Int)) = true := h
    rw [hlP, hlB, hPb] at h
    simp at h
  repeat (refine Run.go rfl ?_)
  refine Run.loop (fun j : Nat => ⟨[(5, .ro 8 false (a.map bkA)), (6, .ro 8 false (b.map bkA)), (34, i64 Rc), (35, .bp (35, 0) 0), (38, i64 Oc), (39, .bp (39, 0) 0), (45, .ro 1 false (P.map i64)), (47, i64 (j : Nat))], [((35, 0), .box [i16 Rf, i16 Rt]), ((39, 0), .box [i16 Of, i16 Ot])]⟩) (fun j => j ≤ P.length) (fun j => P.length - j) 0 (by omega) ?_ ?_
  · exact St.Le.mk' ⟨rfl, rfl, rfl, rfl, rfl, rfl, rfl, rfl, trivial⟩ ⟨rfl, rfl, trivial⟩
  intro j hj IH
  repeat (refine Run.go rfl ?_)
  refine Run.cond rfl (fun h => ?_) (fun h => ?_)
  · have hlt : j < P.length := by simpa using h
    obtain ⟨k, hk1, hk2, hk3⟩ := hPr j (by omega)
    have hat : (P.map i64)[((j : Nat) : Int).toNat]? = some (i64 (k : Nat)) := by rw [Int.toNat_natCast, List.getElem?_map, hk2]; rfl
    obtain ⟨y, hy⟩ : ∃ y, y = a.getD k bk0 := ⟨_, rfl⟩
    have hya : a[k]? = some y := by rw [hy, List.getD_eq_getElem?_getD]; simp [hk1]
    have hyb : b[j]? = some y := by rw [hy, hk3, List.getD_eq_getElem?_getD]; simp [show j < b.length by omega]
    have hyr : bkRng y := har.2 y (List.mem_of_getElem? hya)
    have ata : (a.map bkA)[((k : Nat) : Int).toNat]? = some (bkA y) := by rw [Int.toNat_natCast, List.getElem?_map, hya]; rfl
    have atb : (b.map bkA)[((j : Nat) : Int).toNat]? = some (bkA y) := by rw [Int.toNat_natCast, List.getElem?_map, hyb]; rfl
    repeat (refine Run.go rfl ?_)
    refine Run.drawS ⟨[(5, .ro 8 false (a.map bkA)), (6, .ro 8 false (b.map bkA)), (34, i64 Rc), (35, .bp (35, 0) 0), (38, i64 Oc), (39, .bp (39, 0) 0), (45, .ro 1 false (P.map i64)), (47, i64 (j : Nat)), (406, bo false)], [((35, 0), .box [i16 Rf, i16 Rt]), ((39, 0), .box [i16 Of, i16 Ot])]⟩ rfl (by kernel_rfl) ?_ ?_
    · repeat (refine Quiet.go rfl ?_)
      refine Quiet.val rfl rfl (ValOk.idx (i64 (k : Nat)) rfl rfl rfl rfl rfl (by omega) hat) rfl ?_
      repeat (refine Quiet.go rfl ?_)
      refine Quiet.bool 384 rfl (fun h => by have := of_decide_eq_true h; omega) (fun _ => ?_)
      repeat (refine Quiet.go rfl ?_)
      refine Quiet.val rfl rfl (ValOk.idx (i64 (k : Nat)) rfl rfl rfl rfl rfl (by omega) hat) rfl ?_
      repeat (refine Quiet.go rfl ?_)
      refine Quiet.bool 393 rfl (fun h => by have := of_decide_eq_true h; omega) (fun _ => ?_)
      repeat (refine Quiet.go rfl ?_)
      refine Quiet.val rfl rfl (ValOk.idx (i64 (k : Nat)) rfl rfl rfl rfl rfl (by omega) hat) rfl ?_
      repeat (refine Quiet.go rfl ?_)
      refine Quiet.val rfl rfl (ValOk.idx (bkA y) rfl rfl rfl rfl rfl (by omega) ata) rfl ?_
      repeat (refine Quiet.go rfl ?_)
      refine Quiet.val rfl rfl (ValOk.idx (bkA y) rfl rfl rfl rfl rfl (by omega) atb) rfl ?_
      repeat (refine Quiet.go rfl ?_)
      refine Quiet.val rfl rfl (ValOk.neK y y rfl bkK rfl rfl hyr hyr) rfl ?_
      repeat (refine Quiet.go rfl ?_)
      refine Quiet.nil (St.Le.mk' ⟨rfl, rfl, rfl, rfl, rfl, rfl, rfl, rfl, ?_, trivial⟩ ⟨rfl, rfl, trivial⟩)
      show bo (!decide (y = y)) = bo false
      simp
    repeat (refine Run.go rfl ?_)
    refine Run.cond rfl (fun h => by simp at h) (fun _ => ?_)
    repeat (refine Run.go rfl ?_)
    refine Run.of (IH (j + 1) (by omega) (by omega)) ⟨rfl, rfl, rfl, rfl, rfl, rfl, rfl, ?_, trivial⟩ ⟨rfl, rfl, trivial⟩
    show i64 _ = _
    rw [wrap_i64 (by omega) (by omega)]
    rfl
  clear IH
  have cSB := specSameBooks_ct a a false false har har
  rw [decide_eq_true rfl] at cSB
  repeat (refine Run.go rfl ?_)
  refine Run.condJ ⟨[(5, .ro 8 false (a.map bkA)), (6, .ro 8 false (b.map bkA)), (38, i64 Oc), (39, .bp (39, 0) 0)], [((39, 0), .box [i16 Of, i16 Ot])]⟩ rfl (fun h k' hN => ?_) (fun h k' hN => ?_) ?_
  · have h : Rc = 0 := by simpa using h
    obtain ⟨i, j, h1, h2, h3, h4⟩ := hr0 h
    obtain ⟨rfl, rfl⟩ : Rf = (i : Int) ∧ Rt = (j : Int) := by simpa using h3
    have cMB := implMoveBook_ct b false i j h1 h2 (by omega) hvb
    rw [h4] at cMB
    repeat (refine Run.go rfl ?_)
    refine Run.cs rfl cMB rfl (br_rf _ _) ?_
    refine Run.freeze 412 rfl rfl (br_frz a 0) ?_
    repeat (refine Run.go rfl ?_)
    refine Run.cs rfl cSB rfl rfl ?_
    repeat (refine Run.go rfl ?_)
    refine Run.cond rfl (fun h => by simp at h) (fun _ => ?_)
    repeat (refine Run.go rfl ?_)
    exact Run.of hN ⟨rfl, rfl, rfl, rfl, trivial⟩ ⟨rfl, trivial⟩
  · repeat (refine Run.go rfl ?_)
    exact Run.of hN ⟨rfl, rfl, rfl, rfl, trivial⟩ ⟨rfl, trivial⟩
  repeat (refine Run.go rfl ?_)
  refine Run.condJ ⟨[], []⟩ rfl (fun h k' hN => ?_) (fun h k' hN => ?_) ?_
  · have h : Oc = 0 := by simpa using h
    obtain ⟨i, j, h1, h2, h3, h4, h5⟩ := ho0 h
    obtain ⟨rfl, rfl⟩ : Of = (i : Int) ∧ Ot = (j : Int) := by simpa using h4
    have cSA := implSwapAll_ct b false true (by omega) hvb i j h1 h2
    rw [h5] at cSA
    repeat (refine Run.go rfl ?_)
    refine Run.buildSlice ([((i : Int), (j : Int))].map mvQ) rfl rfl rfl rfl rfl rfl rfl rfl rfl rfl rfl rfl rfl rfl ?_
    refine Run.freeze (v' := .ro 2 true ([((i : Int), (j : Int))].map mvQ)) 428 rfl rfl rfl ?_
    repeat (refine Run.go rfl ?_)
    refine Run.cs rfl cSA rfl (br_rf a 0) ?_
    refine Run.freeze 429 rfl rfl (br_frz a 0) ?_
    repeat (refine Run.go rfl ?_)
    refine Run.cs rfl cSB rfl rfl ?_
    repeat (refine Run.go rfl ?_)
    refine Run.cond rfl (fun h => by have := of_decide_eq_true h; omega) (fun _ => ?_)
    repeat (refine Run.go rfl ?_)
    exact Run.of hN trivial trivial
  · repeat (refine Run.go rfl ?_)
    exact Run.of hN trivial trivial
  repeat (refine Run.go rfl ?_)
  exact Run.ret hg rfl rfl
end Go.Proofs.YtenknlnnnicdeaaGreatDoor
