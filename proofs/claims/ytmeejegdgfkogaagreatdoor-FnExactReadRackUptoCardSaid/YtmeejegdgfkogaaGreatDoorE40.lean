/- Contracts of the program's functions, and what follows from them. -/
import Derived.Test.YtmeejegdgfkogaaGreatDoorE39
set_option linter.unusedVariables false
set_option maxRecDepth 100000
set_option linter.unusedSimpArgs false
namespace Go.Proofs.YtmeejegdgfkogaaGreatDoor
open Go Go.Av

/-! Books in places, out of lines. -/

theorem pl_cells (n : Int) (b : Bk) : plA ⟨n, b⟩ = .agg (i16 n :: (bkA b).cells) := rfl

noncomputable def X16 : Fx := ⟨Tryz.prog, tys, 16, Tryz.f16, [0]⟩
theorem X16_ok : X16.Ok := ⟨Tryz.func16, tys_ok⟩
theorem readPlaced_ct (s : List UInt8) (hlen : s.length ≤ 1048576) : CtA ambA Tryz.prog 16 [str s] (.tup [plA (rpP s).1, bo (rpP s).2]) [] := by
  have hc := Cut_ct s 32 hlen
  obtain ⟨l1, l2⟩ := cut_len (c := 32) s
  have hR : rpP s = (⟨shV (Lib.cut s [32]).1, (rbP (Lib.cut s [32]).2.1).1⟩, (rbP (Lib.cut s [32]).2.1).2) := rfl
  generalize (Lib.cut s [32]).1 = z0 at hR hc l1
  generalize (Lib.cut s [32]).2.1 = z1 at hR hc l2
  generalize (Lib.cut s [32]).2.2 = zz at hc
  have hsh := short_ct z0 (by omega)
  have hb := readBook_ct z1 (by omega)
  generalize shV z0 = n at hR hsh
  generalize (rbP z1).2 = ok at hR hb
  generalize (rbP z1).1 = b at hR hb
  rw [hR]
  obtain ⟨b1, b2, b3, b4, b5, b6, b7, b8⟩ := b
  refine CtA.intro ambA X16 X16_ok rfl (by kernel_rfl) rfl rfl fun g hA hg => ?_
  repeat (refine Run.go rfl ?_)
  refine Run.csA rfl (hc.at hA) rfl rfl ?_
  repeat (refine Run.go rfl ?_)
  refine Run.csA rfl (hb.at hA) rfl rfl ?_
  repeat (refine Run.go rfl ?_)
  refine Run.drawI (fun D => ⟨[(2, .bp (2, 0) 0), (4, str z0), (7, .bp (7, 0) 0), (8, bo ok), (20, bif D 0 then str z0 else .top), (21, bif D 1 then i16 n else .top), (22, bif D 2 then bkA ⟨b1, b2, b3, b4, b5, b6, b7, b8⟩ else .top), (23, bif D 3 then .agg [i16 n, i16 b1, u8 b2, u8 b3, u8 b4, i16 b5, i16 b6, i16 b7, i16 b8] else .top), (24, bif D 4 then bo ok else .top), (3, bif D 6 then bo ok else bo false)], [((2, 0), (bif D 5 then .box (AV.cells (.agg [i16 n, i16 b1, u8 b2, u8 b3, u8 b4, i16 b5, i16 b6, i16 b7, i16 b8])) else .box (plA pl0).cells)), ((7, 0), .box (bkA ⟨b1, b2, b3, b4, b5, b6, b7, b8⟩).cells)]⟩) (by decide +kernel) (by decide +kernel) ?_ ?_ fun k' => ⟨?_, ?_, ?_, ?_, ?_, ?_, ?_, trivial⟩
  · exact St.Le.mk' ⟨rfl, rfl, rfl, rfl, rfl, rfl, rfl, rfl, rfl, rfl, trivial⟩ ⟨rfl, rfl, trivial⟩
  rotate_left
  · intro D hid h0 hp hs rest hK
    obtain ⟨d1, d5, d6, -⟩ : AllD D false [1, 5, 6] := ideal_sub hs (by decide +kernel)
    simp only [d1, d5, d6, h0, cond_true, cond_false]
    refine Run.go rfl ?_
    refine Run.le ?_ hK
    simp only [d1, d5, d6, h0, Nat.reduceBEq, Bool.false_or, Bool.true_or, cond_true, cond_false]
    exact St.Le.mk' ⟨rfl, rfl, rfl, rfl, rfl, rfl, rfl, rfl, rfl, rfl, trivial⟩ ⟨rfl, rfl, trivial⟩
  · intro D hid h0 hp hs rest hK
    obtain ⟨d0, -⟩ : AllD D true [0] := ideal_sub hp (by decide +kernel)
    obtain ⟨d3, d5, d6, -⟩ : AllD D false [3, 5, 6] := ideal_sub hs (by decide +kernel)
    simp only [d0, d3, d5, d6, h0, cond_true, cond_false]
    refine Run.csA rfl (hsh.at hA) rfl rfl ?_
    refine Run.le ?_ hK
    simp only [d0, d3, d5, d6, h0, Nat.reduceBEq, Bool.false_or, Bool.true_or, cond_true, cond_false]
    exact St.Le.mk' ⟨rfl, rfl, rfl, rfl, rfl, rfl, rfl, rfl, rfl, rfl, trivial⟩ ⟨rfl, rfl, trivial⟩
  · intro D hid h0 hp hs rest hK
    obtain ⟨d3, d5, d6, -⟩ : AllD D false [3, 5, 6] := ideal_sub hs (by decide +kernel)
    simp only [d3, d5, d6, h0, cond_true, cond_false]
    refine Run.go rfl ?_
    refine Run.le ?_ hK
    simp only [d3, d5, d6, h0, Nat.reduceBEq, Bool.false_or, Bool.true_or, cond_true, cond_false]
    exact St.Le.mk' ⟨rfl, rfl, rfl, rfl, rfl, rfl, rfl, rfl, rfl, rfl, trivial⟩ ⟨rfl, rfl, trivial⟩
  · intro D hid h0 hp hs rest hK
    obtain ⟨d1, d2, -⟩ : AllD D true [1, 2] := ideal_sub hp (by decide +kernel)
    obtain ⟨d5, d6, -⟩ : AllD D false [5, 6] := ideal_sub hs (by decide +kernel)
    simp only [d1, d2, d5, d6, h0, cond_true, cond_false]
    refine Run.val rfl rfl rfl (ValOk.build (cs := [i16 n, i16 b1, u8 b2, u8 b3, u8 b4, i16 b5, i16 b6, i16 b7, i16 b8]) rfl rfl rfl rfl (by kernel_rfl)) rfl ?_
    refine Run.le ?_ hK
    simp only [d1, d2, d5, d6, h0, Nat.reduceBEq, Bool.false_or, Bool.true_or, cond_true, cond_false]
    exact St.Le.mk' ⟨rfl, rfl, rfl, rfl, rfl, rfl, rfl, rfl, rfl, rfl, trivial⟩ ⟨rfl, rfl, trivial⟩
  · intro D hid h0 hp hs rest hK
    obtain ⟨d6, -⟩ : AllD D false [6] := ideal_sub hs (by decide +kernel)
    simp only [d6, h0, cond_true, cond_false]
    refine Run.go rfl ?_
    refine Run.le ?_ hK
    simp only [d6, h0, Nat.reduceBEq, Bool.false_or, Bool.true_or, cond_true, cond_false]
    exact St.Le.mk' ⟨rfl, rfl, rfl, rfl, rfl, rfl, rfl, rfl, rfl, rfl, trivial⟩ ⟨rfl, rfl, trivial⟩
  · intro D hid h0 hp hs rest hK
    obtain ⟨d0, d1, d2, d3, -⟩ : AllD D true [0, 1, 2, 3] := ideal_sub hp (by decide +kernel)
    obtain ⟨d6, -⟩ : AllD D false [6] := ideal_sub hs (by decide +kernel)
    simp only [d0, d1, d2, d3, d6, h0, cond_true, cond_false]
    refine Run.go rfl ?_
    refine Run.le ?_ hK
    simp only [d0, d1, d2, d3, d6, h0, Nat.reduceBEq, Bool.false_or, Bool.true_or, cond_true, cond_false]
    exact St.Le.mk' ⟨rfl, rfl, rfl, rfl, rfl, rfl, rfl, rfl, rfl, rfl, trivial⟩ ⟨rfl, rfl, trivial⟩
  · intro D hid h0 hp hs rest hK
    obtain ⟨d0, d1, d2, d3, d4, d5, -⟩ : AllD D true [0, 1, 2, 3, 4, 5] := ideal_sub hp (by decide +kernel)
    simp only [d0, d1, d2, d3, d4, d5, h0, cond_true, cond_false]
    refine Run.go rfl ?_
    refine Run.le ?_ hK
    simp only [d0, d1, d2, d3, d4, d5, h0, Nat.reduceBEq, Bool.false_or, Bool.true_or, cond_true, cond_false]
    exact St.Le.mk' ⟨rfl, rfl, rfl, rfl, rfl, rfl, rfl, rfl, rfl, rfl, trivial⟩ ⟨rfl, rfl, trivial⟩
  repeat (refine Run.go rfl ?_)
  exact Run.ret (r := .tup [.agg [i16 n, i16 b1, u8 b2, u8 b3, u8 b4, i16 b5, i16 b6, i16 b7, i16 b8], bo ok]) hg (by kernel_rfl) rfl

/-- The state between two lines. -/
def rpSt (s : List UInt8) (n : Nat) : St := ⟨[(5, .bp (5, 0) 0), (6, .bp (6, 0) 0), (7, .bp (7, 0) 0), (8, .bp (8, 0) 0)],
  [((5, 0), .box [.fn 16 []]), ((6, 0), .box [.lit (.slice none 0 0)]), ((7, 0), .box [bo false]), ((8, 0), .box [.own 9 false (((lines s).take n).map fun l => plA (rpP l).1)])]⟩
def rpSx (n : Nat) : St := ⟨[(6, .bp (6, 0) 0), (7, .bp (7, 0) 0)], [((6, 0), .box [.lit (.slice none 0 0)]), ((7, 0), .box [bo false])]⟩

noncomputable def X15 : Fx := ⟨Tryz.prog, tys, 15, Tryz.f15, []⟩
theorem X15_ok : X15.Ok := ⟨Tryz.func15, tys_ok⟩
theorem readLinesPlaced_ct (s : List UInt8) (hlen : s.length ≤ 1048576) : CtA ambA Tryz.prog 15 [str s, i64 60, .fn 16 []] (.tup [.own 9 false ((rdLP s).1.map plA), bo (rdLP s).2]) [] := by
  refine CtA.intro ambA X15 X15_ok rfl (by kernel_rfl) rfl rfl fun g hA hg => ?_
  have hen : (Tryz.prog.funcs[55]?).map (fun fn => (fn.body.isSome, fn.name == "runtime.NumGoroutine")) = some (true, false) := by kernel_rfl
  iterate 8 (refine Run.go rfl ?_)
  refine Run.region ⟨[(0, str s), (5, .bp (5, 0) 0), (6, .bp (6, 0) 0), (7, .bp (7, 0) 0), (24, bo (!(rdOk s 60)))], [((5, 0), .box [.fn 16 []]), ((6, 0), .box [.lit (.slice none 0 0)]), ((7, 0), .box [bo false])]⟩ ?_ fun k' hN => ?_
  rotate_left
  · have fin : ∀ {v : Bool} {st : St}, v = (!(rdOk s 60)) → st.get 24 = bo v → st.get 24 = bo (!(rdOk s 60)) := fun e h => by rw [← e]; exact h
    have hne : ∀ b, (!((⟨s.toArray⟩ : ByteArray).toList == (⟨([] : List UInt8).toArray⟩ : ByteArray).toList)) = b → decide (s = []) = !b := fun b hb => by
      rw [str_eq] at hb
      rw [← hb, Bool.not_not]
    repeat (refine Run.go rfl ?_)
    refine Run.bool 14 rfl (fun h => ?_) (fun h => ?_)
    · have hs0 := hne true h
      have hE : ended s = decide (s.getLast? = some 10) := by
        simp only [Bool.not_true, decide_eq_false_iff_not] at hs0
        simp [ended, hs0]
      repeat (refine Run.go rfl ?_)
      refine Run.cs rfl (HasSuffix_ct s hlen) rfl rfl ?_
      repeat (refine Run.go rfl ?_)
      refine Run.bool 19 rfl (fun h2 => ?_) (fun h2 => ?_)
      · repeat (refine Run.go rfl ?_)
        refine Run.of hN ⟨rfl, rfl, rfl, rfl, fin (v := true) ?_ rfl, trivial⟩ ⟨rfl, rfl, rfl, trivial⟩
        have h2 : (!(decide (s.getLast? = some 10))) = true := h2
        rw [← hE] at h2
        have h2 : ended s = false := by simpa using h2
        rw [rdOk, h2]; rfl
      · have h2 : (!(decide (s.getLast? = some 10))) = false := h2
        rw [← hE] at h2
        have h2 : ended s = true := by simpa using h2
        repeat (refine Run.go rfl ?_)
        refine Run.cs rfl (Count_ct s) rfl rfl ?_
        repeat (refine Run.go rfl ?_)
        refine Run.of hN ⟨rfl, rfl, rfl, rfl, fin (v := decide ((s.count 10 : Int) > 60)) ?_ rfl, trivial⟩ ⟨rfl, rfl, rfl, trivial⟩
        rw [rdOk, h2, Bool.true_and, ← decide_not]
        refine decide_eq_decide.2 ?_
        omega
    · have hs0 := hne false h
      have h2 : ended s = true := by
        simp only [Bool.not_false, decide_eq_true_eq] at hs0
        simp [ended, hs0]
      repeat (refine Run.go rfl ?_)
      refine Run.cs rfl (Count_ct s) rfl rfl ?_
      repeat (refine Run.go rfl ?_)
      refine Run.of hN ⟨rfl, rfl, rfl, rfl, fin (v := decide ((s.count 10 : Int) > 60)) ?_ rfl, trivial⟩ ⟨rfl, rfl, rfl, trivial⟩
      rw [rdOk, h2, Bool.true_and, ← decide_not]
      refine decide_eq_decide.2 ?_
      omega
  refine Run.cond rfl (fun h => ?_) (fun h => ?_)
  · have h : rdOk s 60 = false := by simpa using h
    have hR : rdLP s = ([], false) := by rw [rdLP, h]; rfl
    rw [hR] at hg
    repeat (refine Run.go rfl ?_)
    refine Run.nilBox (6, 0) 0 9 false rfl rfl ?_
    exact Run.ret hg rfl rfl
  have h : rdOk s 60 = true := by simpa using h
  have hE : ended s = true := by rw [rdOk, Bool.and_eq_true] at h; exact h.1
  obtain ⟨ls, hs1, hs2⟩ := spl_lnE _ s (Nat.le_refl _) hE
  have hls : lines s = ls := by rw [lines, hs1]; simp
  have hlw : ∀ w ∈ ls, w.length ≤ s.length := fun w hw => spl_wlen (c := 10) (by rw [hs1]; simp [hw])
  have hll : ls.length ≤ s.length := by
    have := spl_len 10 s
    rw [hs1] at this
    simp at this
    omega
  repeat (refine Run.go rfl ?_)
  refine Run.mem0 (26, 0) rfl ?_
  refine Run.callM (26, 0) (fun _ => True) lnFn (fun B => lnBox B s) rfl rfl rfl rfl rfl (vs := [.string ⟨s.toArray⟩]) rfl rfl (by kernel_rfl) (fun w _ => Lines_calls s w) rfl fun B _ => ?_
  refine Run.nilBox (8, 0) 0 9 false rfl rfl ?_
  repeat (refine Run.go rfl ?_)
  refine Run.rangeFunc (26, 0) (99, 9) [5, 6, 7, 8] (rpSt s) rpSx (fun n => ((lines s).take n).all (fun l => (rpP l).2) = true) (fun n => (lines s).all (fun l => (rpP l).2) = false) (by simp) hg (Lines1_seq s hlen B) hen rfl rfl ?_ (fun n => rfl) (fun n => rfl) (fun n => rfl) (fun n => rfl) rfl ?_ ?_ ?_
  · exact St.Le.mk' ⟨rfl, rfl, rfl, rfl, trivial⟩ ⟨rfl, rfl, rfl, rfl, trivial⟩
  · intro n x gr l r hIn hx hrs hAr hgr
    have hA1 := hAr ambA hA
    rw [hs2, List.map_map, List.getElem?_map] at hx
    obtain ⟨ln, hln, rfl⟩ := Option.map_eq_some_iff.1 hx
    clear hx
    have hlm : ln ∈ ls := List.mem_of_getElem? hln
    have hlen1 : ln.length ≤ 1048576 := Nat.le_trans (hlw ln hlm) hlen
    obtain ⟨t, ht⟩ : ∃ t, t = ln ++ [10] := ⟨_, rfl⟩
    have htr := TrimSuffix_ct ln t ht (by rw [ht]; simp; omega)
    have hra := readPlaced_ct ln hlen1
    have hnl : n < ls.length := (List.getElem?_eq_some_iff.1 hln).1
    have hnext : ((lines s).take (n + 1)).map (fun l => plA (rpP l).1) = ((lines s).take n).map (fun l => plA (rpP l).1) ++ [plA (rpP ln).1] := by
      rw [hls, List.take_add_one, hln]
      simp
    have hIn1 : ((lines s).take (n + 1)).all (fun l => (rpP l).2) = (rpP ln).2 := by
      rw [hls] at hIn ⊢
      rw [List.take_add_one, hln, List.all_append, hIn]
      simp
    have hIx1 : (rpP ln).2 = false → (lines s).all (fun l => (rpP l).2) = false := fun h => by
      rw [hls]
      exact List.all_eq_false.2 ⟨ln, hlm, by rw [h]; simp⟩
    have hlenY : (((lines s).take n).map (fun l => plA (rpP l).1)).length ≤ 1048576 := by
      rw [List.length_map, List.length_take, hls]; omega
    have hSn : rpSt s (n + 1) = ⟨[(5, .bp (5, 0) 0), (6, .bp (6, 0) 0), (7, .bp (7, 0) 0), (8, .bp (8, 0) 0)],
        [((5, 0), .box [.fn 16 []]), ((6, 0), .box [.lit (.slice none 0 0)]), ((7, 0), .box [bo false]), ((8, 0), .box [.own 9 false (((lines s).take n).map (fun l => plA (rpP l).1) ++ [plA (rpP ln).1])])]⟩ := by
      rw [← hnext]; rfl
    rw [hSn] at hgr
    show Run _ _ _ (St.put (St.setObj (rpSt s n) (99, 9) (.mem [(l, .loop r)])) 27 (.lit (.string ⟨(ln ++ [10]).toArray⟩)))
    rw [← ht]
    show Run _ _ _ (St.put (St.setObj ⟨[(5, .bp (5, 0) 0), (6, .bp (6, 0) 0), (7, .bp (7, 0) 0), (8, .bp (8, 0) 0)],
        [((5, 0), .box [.fn 16 []]), ((6, 0), .box [.lit (.slice none 0 0)]), ((7, 0), .box [bo false]), ((8, 0), .box [.own 9 false (((lines s).take n).map (fun l => plA (rpP l).1))])]⟩ (99, 9) (.mem [(l, .loop r)])) 27 (str t))
    generalize ((lines s).take n).map (fun l => plA (rpP l).1) = Ys at hgr hlenY
    generalize (rpP ln).2 = ok at hra hIn1 hIx1
    generalize (rpP ln).1 = A at hra hgr
    clear hnext hSn
    repeat (refine Run.go rfl ?_)
    refine Run.beginRound (99, 9) hgr rfl hrs ?_
    generalize hrb : ({ r with state := .busy } : Loop) = rb at hgr
    repeat (refine Run.go rfl ?_)
    refine Run.drawI (fun D => ⟨[(5, .bp (5, 0) 0), (6, .bp (6, 0) 0), (7, .bp (7, 0) 0), (8, .bp (8, 0) 0), (9, str t), (29, bif D 0 then .fn 16 [] else .top), (30, bif D 1 then str t else .top), (31, bif D 2 then str ln else .top), (32, bif D 4 then .top else bif D 3 then .tup [plA A, bo ok] else .top), (28, bif D 4 then .tup [plA A, bo ok] else .top), (33, bif D 5 then plA A else .top), (34, bif D 6 then bo ok else .top), (10, bif D 7 then .bp (10, 0) 0 else .top), (11, bif D 9 then bo ok else .top)], [((5, 0), .box [.fn 16 []]), ((6, 0), .box [.lit (.slice none 0 0)]), ((7, 0), .box [bo false]), ((8, 0), .box [.own 9 false Ys]), ((99, 9), .mem [(l, .loop rb)]), ((10, 0), (bif D 8 then .box (plA A).cells else (bif D 7 then .box (plA pl0).cells else .gone)))]⟩) (by decide +kernel) (by decide +kernel) ?_ ?_ fun k' => ⟨?_, ?_, ?_, ?_, ?_, ?_, ?_, ?_, ?_, ?_, trivial⟩
    · exact St.Le.mk' ⟨rfl, rfl, rfl, rfl, rfl, rfl, rfl, rfl, rfl, rfl, rfl, rfl, rfl, rfl, trivial⟩ ⟨rfl, rfl, rfl, rfl, rfl, rfl, trivial⟩
    rotate_left
    · intro D hid h0 hp hs rest hK
      obtain ⟨d3, d8, d9, -⟩ : AllD D false [3, 8, 9] := ideal_sub hs (by decide +kernel)
      simp only [d3, d8, d9, h0, cond_true, cond_false]
      refine Run.go rfl ?_
      refine Run.le ?_ hK
      simp only [d3, d8, d9, h0, Nat.reduceBEq, Bool.false_or, Bool.true_or, cond_true, cond_false]
      exact St.Le.mk' ⟨rfl, rfl, rfl, rfl, rfl, rfl, rfl, rfl, rfl, rfl, rfl, rfl, rfl, rfl, trivial⟩ ⟨rfl, rfl, rfl, rfl, rfl, rfl, trivial⟩
    · intro D hid h0 hp hs rest hK
      obtain ⟨d2, d8, d9, -⟩ : AllD D false [2, 8, 9] := ideal_sub hs (by decide +kernel)
      simp only [d2, d8, d9, h0, cond_true, cond_false]
      refine Run.go rfl ?_
      refine Run.le ?_ hK
      simp only [d2, d8, d9, h0, Nat.reduceBEq, Bool.false_or, Bool.true_or, cond_true, cond_false]
      exact St.Le.mk' ⟨rfl, rfl, rfl, rfl, rfl, rfl, rfl, rfl, rfl, rfl, rfl, rfl, rfl, rfl, trivial⟩ ⟨rfl, rfl, rfl, rfl, rfl, rfl, trivial⟩
    · intro D hid h0 hp hs rest hK
      obtain ⟨d1, -⟩ : AllD D true [1] := ideal_sub hp (by decide +kernel)
      obtain ⟨d3, d8, d9, -⟩ : AllD D false [3, 8, 9] := ideal_sub hs (by decide +kernel)
      simp only [d1, d3, d8, d9, h0, cond_true, cond_false]
      refine Run.cs rfl htr rfl rfl ?_
      refine Run.le ?_ hK
      simp only [d1, d3, d8, d9, h0, Nat.reduceBEq, Bool.false_or, Bool.true_or, cond_true, cond_false]
      exact St.Le.mk' ⟨rfl, rfl, rfl, rfl, rfl, rfl, rfl, rfl, rfl, rfl, rfl, rfl, rfl, rfl, trivial⟩ ⟨rfl, rfl, rfl, rfl, rfl, rfl, trivial⟩
    · intro D hid h0 hp hs rest hK
      obtain ⟨d0, d2, -⟩ : AllD D true [0, 2] := ideal_sub hp (by decide +kernel)
      obtain ⟨d4, d8, d9, -⟩ : AllD D false [4, 8, 9] := ideal_sub hs (by decide +kernel)
      simp only [d0, d2, d4, d8, d9, h0, cond_true, cond_false]
      refine Run.csA rfl (hra.at hA1) rfl rfl ?_
      refine Run.le ?_ hK
      simp only [d0, d2, d4, d8, d9, h0, Nat.reduceBEq, Bool.false_or, Bool.true_or, cond_true, cond_false]
      exact St.Le.mk' ⟨rfl, rfl, rfl, rfl, rfl, rfl, rfl, rfl, rfl, rfl, rfl, rfl, rfl, rfl, trivial⟩ ⟨rfl, rfl, rfl, rfl, rfl, rfl, trivial⟩
    · intro D hid h0 hp hs rest hK
      obtain ⟨d3, -⟩ : AllD D true [3] := ideal_sub hp (by decide +kernel)
      obtain ⟨d5, d6, d8, d9, -⟩ : AllD D false [5, 6, 8, 9] := ideal_sub hs (by decide +kernel)
      simp only [d3, d5, d6, d8, d9, h0, cond_true, cond_false]
      refine Run.go rfl ?_
      refine Run.le ?_ hK
      simp only [d3, d5, d6, d8, d9, h0, Nat.reduceBEq, Bool.false_or, Bool.true_or, cond_true, cond_false]
      exact St.Le.mk' ⟨rfl, rfl, rfl, rfl, rfl, rfl, rfl, rfl, rfl, rfl, rfl, rfl, rfl, rfl, trivial⟩ ⟨rfl, rfl, rfl, rfl, rfl, rfl, trivial⟩
    · intro D hid h0 hp hs rest hK
      obtain ⟨d4, -⟩ : AllD D true [4] := ideal_sub hp (by decide +kernel)
      obtain ⟨d8, d9, -⟩ : AllD D false [8, 9] := ideal_sub hs (by decide +kernel)
      simp only [d4, d8, d9, h0, cond_true, cond_false]
      refine Run.go rfl ?_
      refine Run.le ?_ hK
      simp only [d4, d8, d9, h0, Nat.reduceBEq, Bool.false_or, Bool.true_or, cond_true, cond_false]
      exact St.Le.mk' ⟨rfl, rfl, rfl, rfl, rfl, rfl, rfl, rfl, rfl, rfl, rfl, rfl, rfl, rfl, trivial⟩ ⟨rfl, rfl, rfl, rfl, rfl, rfl, trivial⟩
    · intro D hid h0 hp hs rest hK
      obtain ⟨d4, -⟩ : AllD D true [4] := ideal_sub hp (by decide +kernel)
      obtain ⟨d9, -⟩ : AllD D false [9] := ideal_sub hs (by decide +kernel)
      simp only [d4, d9, h0, cond_true, cond_false]
      refine Run.go rfl ?_
      refine Run.le ?_ hK
      simp only [d4, d9, h0, Nat.reduceBEq, Bool.false_or, Bool.true_or, cond_true, cond_false]
      exact St.Le.mk' ⟨rfl, rfl, rfl, rfl, rfl, rfl, rfl, rfl, rfl, rfl, rfl, rfl, rfl, rfl, trivial⟩ ⟨rfl, rfl, rfl, rfl, rfl, rfl, trivial⟩
    · intro D hid h0 hp hs rest hK
      obtain ⟨d8, d9, -⟩ : AllD D false [8, 9] := ideal_sub hs (by decide +kernel)
      simp only [d8, d9, h0, cond_true, cond_false]
      refine Run.alloc rfl rfl rfl rfl rfl rfl (by cases D 0 <;> cases D 1 <;> cases D 2 <;> cases D 3 <;> cases D 4 <;> cases D 5 <;> cases D 6 <;> rfl) rfl ?_
      refine Run.le ?_ hK
      simp only [d8, d9, h0, Nat.reduceBEq, Bool.false_or, Bool.true_or, cond_true, cond_false]
      exact St.Le.mk' ⟨rfl, rfl, rfl, rfl, rfl, rfl, rfl, rfl, rfl, rfl, rfl, rfl, rfl, rfl, trivial⟩ ⟨rfl, rfl, rfl, rfl, rfl, rfl, trivial⟩
    · intro D hid h0 hp hs rest hK
      obtain ⟨d0, d1, d2, d3, d4, d5, d7, -⟩ : AllD D true [0, 1, 2, 3, 4, 5, 7] := ideal_sub hp (by decide +kernel)
      obtain ⟨d9, -⟩ : AllD D false [9] := ideal_sub hs (by decide +kernel)
      simp only [d0, d1, d2, d3, d4, d5, d7, d9, h0, cond_true, cond_false]
      refine Run.go rfl ?_
      refine Run.le ?_ hK
      simp only [d0, d1, d2, d3, d4, d5, d7, d9, h0, Nat.reduceBEq, Bool.false_or, Bool.true_or, cond_true, cond_false]
      exact St.Le.mk' ⟨rfl, rfl, rfl, rfl, rfl, rfl, rfl, rfl, rfl, rfl, rfl, rfl, rfl, rfl, trivial⟩ ⟨rfl, rfl, rfl, rfl, rfl, rfl, trivial⟩
    · intro D hid h0 hp hs rest hK
      obtain ⟨d0, d1, d2, d3, d4, d5, d6, d7, d8, -⟩ : AllD D true [0, 1, 2, 3, 4, 5, 6, 7, 8] := ideal_sub hp (by decide +kernel)
      simp only [d0, d1, d2, d3, d4, d5, d6, d7, d8, h0, cond_true, cond_false]
      refine Run.go rfl ?_
      refine Run.le ?_ hK
      simp only [d0, d1, d2, d3, d4, d5, d6, d7, d8, h0, Nat.reduceBEq, Bool.false_or, Bool.true_or, cond_true, cond_false]
      exact St.Le.mk' ⟨rfl, rfl, rfl, rfl, rfl, rfl, rfl, rfl, rfl, rfl, rfl, rfl, rfl, rfl, trivial⟩ ⟨rfl, rfl, rfl, rfl, rfl, rfl, trivial⟩
    repeat (refine Run.go rfl ?_)
    refine Run.cond rfl (fun h => ?_) (fun h => ?_)
    · repeat (refine Run.go rfl ?_)
      exact Run.roundRet hgr (hIx1 (by simpa using h)) (St.Le.mk' ⟨rfl, rfl, trivial⟩ ⟨rfl, rfl, rfl, trivial⟩)
    · refine Run.unBox (8, 0) 0 (8, 1) rfl rfl rfl (by decide) ?_
      repeat (refine Run.go rfl ?_)
      refine Run.buildSlice [plA A] rfl rfl rfl rfl rfl rfl rfl rfl rfl rfl rfl rfl rfl rfl ?_
      refine Run.appendo rfl rfl rfl rfl rfl rfl rfl rfl rfl rfl rfl rfl rfl rfl (by show (Ys.length + 1) * 16 ≤ 140737488355328; omega) (by simp [capMax]; omega) (by decide) rfl ?_
      refine Run.unpack 40 rfl rfl ?_
      repeat (refine Run.go rfl ?_)
      refine Run.packBox (8, 0) 0 rfl rfl rfl rfl ?_
      repeat (refine Run.go rfl ?_)
      exact Run.roundEnd hgr (by rw [hIn1]; simpa using h) (St.Le.mk' ⟨rfl, rfl, rfl, rfl, trivial⟩ ⟨rfl, rfl, rfl, rfl, rfl, trivial⟩)
  · intro g2 D hA2 hg2 hD hall
    have hN : ((lnE s).map fun l => Value.string ⟨l.toArray⟩).length = ls.length := by rw [hs2]; simp
    rw [hN, hls, List.take_length] at hall
    have hR : rdLP s = (ls.map fun l => (rpP l).1, true) := by rw [rdLP, h, hls, hall]; rfl
    rw [hR] at hg2
    have hSn : rpSt s ls.length = ⟨[(5, .bp (5, 0) 0), (6, .bp (6, 0) 0), (7, .bp (7, 0) 0), (8, .bp (8, 0) 0)],
        [((5, 0), .box [.fn 16 []]), ((6, 0), .box [.lit (.slice none 0 0)]), ((7, 0), .box [bo false]), ((8, 0), .box [.own 9 false ((ls.map fun l => (rpP l).1).map plA)])]⟩ := by
      rw [rpSt, hls, List.take_length, List.map_map]; rfl
    rw [hN, hSn]
    generalize (ls.map fun l => (rpP l).1) = As at hg2
    refine Run.unBox (8, 0) 0 (8, 1) rfl rfl rfl (by decide) ?_
    repeat (refine Run.go rfl ?_)
    refine Run.packBox (6, 0) 0 rfl rfl rfl rfl ?_
    exact Run.retM hg2 hD rfl rfl
  · intro n g2 D hA2 hg2 hD hall
    have hR : rdLP s = ([], false) := by rw [rdLP, hall]; simp
    rw [hR] at hg2
    refine Run.nilBox (6, 0) 0 9 false rfl rfl ?_
    exact Run.retM hg2 hD rfl rfl
end Go.Proofs.YtmeejegdgfkogaaGreatDoor
