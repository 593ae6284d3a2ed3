/- Contracts of the program's functions, and what follows from them. -/
import Derived.Test.YtjajfepcknieeaaGreatDoorE33
import Derived.Test.YtjajfepcknieeaaGreatDoorE21
set_option linter.unusedVariables false
set_option maxRecDepth 100000
set_option linter.unusedSimpArgs false
namespace Go.Proofs.YtjajfepcknieeaaGreatDoor
open Go Go.Av

/-! Lines that are read: acts. -/

def okA (l : List UInt8) : Bool := aOk (raA l) && decide (aText (raA l) = l)
def rdLA (s : List UInt8) : List Ac × Bool := if (rdOk s 200 && (lines s).all okA) = true then ((lines s).map raA, true) else ([], false)

/-- The state between two lines. -/
def rdSt (s : List UInt8) (n : Nat) : St := ⟨[(5, .bp (5, 0) 0), (6, .bp (6, 0) 0), (7, .bp (7, 0) 0), (8, .bp (8, 0) 0)],
  [((5, 0), .box [.fn 39 []]), ((6, 0), .box [.lit (.slice none 0 0)]), ((7, 0), .box [bo false]), ((8, 0), .box [.own 3 false (((lines s).take n).map fun l => acA (raA l))])]⟩
def rdSx (n : Nat) : St := ⟨[(6, .bp (6, 0) 0), (7, .bp (7, 0) 0)], [((6, 0), .box [.lit (.slice none 0 0)]), ((7, 0), .box [bo false])]⟩

noncomputable def X38 : Fx := ⟨Tryz.prog, tys, 38, Tryz.f38, []⟩
theorem X38_ok : X38.Ok := ⟨Tryz.func38, tys_ok⟩
theorem readLinesAct_ct (s : List UInt8) (hlen : s.length ≤ 1048576) : CtA ambA Tryz.prog 38 [str s, i64 200, .fn 39 []] (.tup [.own 3 false ((rdLA s).1.map acA), bo (rdLA s).2]) [] := by
  refine CtA.intro ambA X38 X38_ok rfl (by kernel_rfl) rfl rfl fun g hA hg => ?_
  have hen : (Tryz.prog.funcs[126]?).map (fun fn => (fn.body.isSome, fn.name == "runtime.NumGoroutine")) = some (true, false) := by kernel_rfl
  iterate 8 (refine Run.go rfl ?_)
  refine Run.region ⟨[(0, str s), (5, .bp (5, 0) 0), (6, .bp (6, 0) 0), (7, .bp (7, 0) 0), (24, bo (!(rdOk s 200)))], [((5, 0), .box [.fn 39 []]), ((6, 0), .box [.lit (.slice none 0 0)]), ((7, 0), .box [bo false])]⟩ ?_ fun k' hN => ?_
  rotate_left
  · have fin : ∀ {v : Bool} {st : St}, v = (!(rdOk s 200)) → st.get 24 = bo v → st.get 24 = bo (!(rdOk s 200)) := fun e h => by rw [← e]; exact h
    have hne : ∀ b, (!((⟨s.toArray⟩ : ByteArray).toList == (⟨([] : List UInt8).toArray⟩ : ByteArray).toList)) = b → decide (s = []) = !b := fun b hb => by
      rw [str_eq] at hb
      rw [← hb, Bool.not_not]
    repeat (refine Run.go rfl ?_)
    refine Run.bool 14 rfl (fun h => ?_) (fun h => ?_)
    · have hs0 := hne true h
      have hE : ended s = decide (s.getLast? = some 10) := by
        simp only [Bool.not_true, decide_eq_false_iff_not] at hs0
        simp [ended, hs0]
      repeat (refine Run.go rfl ?_)
      refine Run.cs rfl (HasSuffix_ct s hlen) rfl rfl ?_
      repeat (refine Run.go rfl ?_)
      refine Run.bool 19 rfl (fun h2 => ?_) (fun h2 => ?_)
      · repeat (refine Run.go rfl ?_)
        refine Run.of hN ⟨rfl, rfl, rfl, rfl, fin (v := true) ?_ rfl, trivial⟩ ⟨rfl, rfl, rfl, trivial⟩
        have h2 : (!(decide (s.getLast? = some 10))) = true := h2
        rw [← hE] at h2
        have h2 : ended s = false := by simpa using h2
        rw [rdOk, h2]; rfl
      · have h2 : (!(decide (s.getLast? = some 10))) = false := h2
        rw [← hE] at h2
        have h2 : ended s = true := by simpa using h2
        repeat (refine Run.go rfl ?_)
        refine Run.cs rfl (Count_ct s) rfl rfl ?_
        repeat (refine Run.go rfl ?_)
        refine Run.of hN ⟨rfl, rfl, rfl, rfl, fin (v := decide ((s.count 10 : Int) > 200)) ?_ rfl, trivial⟩ ⟨rfl, rfl, rfl, trivial⟩
        rw [rdOk, h2, Bool.true_and, ← decide_not]
        refine decide_eq_decide.2 ?_
        omega
    · have hs0 := hne false h
      have h2 : ended s = true := by
        simp only [Bool.not_false, decide_eq_true_eq] at hs0
        simp [ended, hs0]
      repeat (refine Run.go rfl ?_)
      refine Run.cs rfl (Count_ct s) rfl rfl ?_
      repeat (refine Run.go rfl ?_)
      refine Run.of hN ⟨rfl, rfl, rfl, rfl, fin (v := decide ((s.count 10 : Int) > 200)) ?_ rfl, trivial⟩ ⟨rfl, rfl, rfl, trivial⟩
      rw [rdOk, h2, Bool.true_and, ← decide_not]
      refine decide_eq_decide.2 ?_
      omega
  refine Run.cond rfl (fun h => ?_) (fun h => ?_)
  · have h : rdOk s 200 = false := by simpa using h
    have hR : rdLA s = ([], false) := by rw [rdLA, h]; rfl
    rw [hR] at hg
    repeat (refine Run.go rfl ?_)
    refine Run.nilBox (6, 0) 0 3 false rfl rfl ?_
    exact Run.ret hg rfl rfl
  have h : rdOk s 200 = true := by simpa using h
  have hE : ended s = true := by rw [rdOk, Bool.and_eq_true] at h; exact h.1
  obtain ⟨ls, hs1, hs2⟩ := spl_lnE _ s (Nat.le_refl _) hE
  have hls : lines s = ls := by rw [lines, hs1]; simp
  have hlw : ∀ w ∈ ls, w.length ≤ s.length := fun w hw => spl_wlen (c := 10) (by rw [hs1]; simp [hw])
  have hll : ls.length ≤ s.length := by
    have := spl_len 10 s
    rw [hs1] at this
    simp at this
    omega
  repeat (refine Run.go rfl ?_)
  refine Run.mem0 (26, 0) rfl ?_
  refine Run.callM (26, 0) (fun _ => True) lnFn (fun B => lnBox B s) rfl rfl rfl rfl rfl (vs := [.string ⟨s.toArray⟩]) rfl rfl (by kernel_rfl) (fun w _ => Lines_calls s w) rfl fun B _ => ?_
  refine Run.nilBox (8, 0) 0 3 false rfl rfl ?_
  repeat (refine Run.go rfl ?_)
  refine Run.rangeFunc (26, 0) (99, 9) [5, 6, 7, 8] (rdSt s) rdSx (fun n => ((lines s).take n).all okA = true) (fun n => (lines s).all okA = false) (by simp) hg (Lines1_seq s hlen B) hen rfl rfl ?_ (fun n => rfl) (fun n => rfl) (fun n => rfl) (fun n => rfl) rfl ?_ ?_ ?_
  · exact St.Le.mk' ⟨rfl, rfl, rfl, rfl, trivial⟩ ⟨rfl, rfl, rfl, rfl, trivial⟩
  · intro n x gr l r hIn hx hrs hAr hgr
    have hA1 := hAr ambA hA
    rw [hs2, List.map_map, List.getElem?_map] at hx
    obtain ⟨ln, hln, rfl⟩ := Option.map_eq_some_iff.1 hx
    clear hx
    have hlm : ln ∈ ls := List.mem_of_getElem? hln
    have hlen1 : ln.length ≤ 1048576 := Nat.le_trans (hlw ln hlm) hlen
    obtain ⟨t, ht⟩ : ∃ t, t = ln ++ [10] := ⟨_, rfl⟩
    have htr := TrimSuffix_ct ln t ht (by rw [ht]; simp; omega)
    have hra := readAct_ct ln hlen1
    have hok : okA ln = (aOk (raA ln) && decide (aText (raA ln) = ln)) := rfl
    rw [← hok] at hra
    have hnl : n < ls.length := (List.getElem?_eq_some_iff.1 hln).1
    have hnext : ((lines s).take (n + 1)).map (fun l => acA (raA l)) = ((lines s).take n).map (fun l => acA (raA l)) ++ [acA (raA ln)] := by
      rw [hls, List.take_add_one, hln]
      simp
    have hIn1 : ((lines s).take (n + 1)).all okA = okA ln := by
      rw [hls] at hIn ⊢
      rw [List.take_add_one, hln, List.all_append, hIn]
      simp
    have hIx1 : okA ln = false → (lines s).all okA = false := fun h => by
      rw [hls]
      exact List.all_eq_false.2 ⟨ln, hlm, by rw [h]; simp⟩
    have hlenY : (((lines s).take n).map (fun l => acA (raA l))).length ≤ 1048576 := by
      rw [List.length_map, List.length_take, hls]; omega
    have hSn : rdSt s (n + 1) = ⟨[(5, .bp (5, 0) 0), (6, .bp (6, 0) 0), (7, .bp (7, 0) 0), (8, .bp (8, 0) 0)],
        [((5, 0), .box [.fn 39 []]), ((6, 0), .box [.lit (.slice none 0 0)]), ((7, 0), .box [bo false]), ((8, 0), .box [.own 3 false (((lines s).take n).map (fun l => acA (raA l)) ++ [acA (raA ln)])])]⟩ := by
      rw [← hnext]; rfl
    rw [hSn] at hgr
    show Run _ _ _ (St.put (St.setObj (rdSt s n) (99, 9) (.mem [(l, .loop r)])) 27 (.lit (.string ⟨(ln ++ [10]).toArray⟩)))
    rw [← ht]
    show Run _ _ _ (St.put (St.setObj ⟨[(5, .bp (5, 0) 0), (6, .bp (6, 0) 0), (7, .bp (7, 0) 0), (8, .bp (8, 0) 0)],
        [((5, 0), .box [.fn 39 []]), ((6, 0), .box [.lit (.slice none 0 0)]), ((7, 0), .box [bo false]), ((8, 0), .box [.own 3 false (((lines s).take n).map (fun l => acA (raA l)))])]⟩ (99, 9) (.mem [(l, .loop r)])) 27 (str t))
    generalize ((lines s).take n).map (fun l => acA (raA l)) = Ys at hgr hlenY
    generalize okA ln = ok at hra hIn1 hIx1
    generalize raA ln = A at hra hgr
    clear hnext hSn
    repeat (refine Run.go rfl ?_)
    refine Run.beginRound (99, 9) hgr rfl hrs ?_
    generalize hrb : ({ r with state := .busy } : Loop) = rb at hgr
    repeat (refine Run.go rfl ?_)
    refine Run.drawI (fun D => ⟨[(5, .bp (5, 0) 0), (6, .bp (6, 0) 0), (7, .bp (7, 0) 0), (8, .bp (8, 0) 0), (9, str t), (29, bif D 0 then .fn 39 [] else .top), (30, bif D 1 then str t else .top), (31, bif D 2 then str ln else .top), (32, bif D 4 then .top else bif D 3 then .tup [acA A, bo ok] else .top), (28, bif D 4 then .tup [acA A, bo ok] else .top), (33, bif D 5 then acA A else .top), (34, bif D 6 then bo ok else .top), (10, bif D 7 then .bp (10, 0) 0 else .top), (11, bif D 9 then bo ok else .top)], [((5, 0), .box [.fn 39 []]), ((6, 0), .box [.lit (.slice none 0 0)]), ((7, 0), .box [bo false]), ((8, 0), .box [.own 3 false Ys]), ((99, 9), .mem [(l, .loop rb)]), ((10, 0), (bif D 8 then .box (acA A).cells else (bif D 7 then .box (acA ac0).cells else .gone)))]⟩) (by decide +kernel) (by decide +kernel) ?_ ?_ fun k' => ⟨?_, ?_, ?_, ?_, ?_, ?_, ?_, ?_, ?_, ?_, trivial⟩
    · exact St.Le.mk' ⟨rfl, rfl, rfl, rfl, rfl, rfl, rfl, rfl, rfl, rfl, rfl, rfl, rfl, rfl, trivial⟩ ⟨rfl, rfl, rfl, rfl, rfl, rfl, trivial⟩
    rotate_left
    · intro D hid h0 hp hs rest hK
      obtain ⟨d3, d8, d9, -⟩ : AllD D false [3, 8, 9] := ideal_sub hs (by decide +kernel)
      simp only [d3, d8, d9, h0, cond_true, cond_false]
      refine Run.go rfl ?_
      refine Run.le ?_ hK
      simp only [d3, d8, d9, h0, Nat.reduceBEq, Bool.false_or, Bool.true_or, cond_true, cond_false]
      exact St.Le.mk' ⟨rfl, rfl, rfl, rfl, rfl, rfl, rfl, rfl, rfl, rfl, rfl, rfl, rfl, rfl, trivial⟩ ⟨rfl, rfl, rfl, rfl, rfl, rfl, trivial⟩
    · intro D hid h0 hp hs rest hK
      obtain ⟨d2, d8, d9, -⟩ : AllD D false [2, 8, 9] := ideal_sub hs (by decide +kernel)
      simp only [d2, d8, d9, h0, cond_true, cond_false]
      refine Run.go rfl ?_
      refine Run.le ?_ hK
      simp only [d2, d8, d9, h0, Nat.reduceBEq, Bool.false_or, Bool.true_or, cond_true, cond_false]
      exact St.Le.mk' ⟨rfl, rfl, rfl, rfl, rfl, rfl, rfl, rfl, rfl, rfl, rfl, rfl, rfl, rfl, trivial⟩ ⟨rfl, rfl, rfl, rfl, rfl, rfl, trivial⟩
    · intro D hid h0 hp hs rest hK
      obtain ⟨d1, -⟩ : AllD D true [1] := ideal_sub hp (by decide +kernel)
      obtain ⟨d3, d8, d9, -⟩ : AllD D false [3, 8, 9] := ideal_sub hs (by decide +kernel)
      simp only [d1, d3, d8, d9, h0, cond_true, cond_false]
      refine Run.cs rfl htr rfl rfl ?_
      refine Run.le ?_ hK
      simp only [d1, d3, d8, d9, h0, Nat.reduceBEq, Bool.false_or, Bool.true_or, cond_true, cond_false]
      exact St.Le.mk' ⟨rfl, rfl, rfl, rfl, rfl, rfl, rfl, rfl, rfl, rfl, rfl, rfl, rfl, rfl, trivial⟩ ⟨rfl, rfl, rfl, rfl, rfl, rfl, trivial⟩
    · intro D hid h0 hp hs rest hK
      obtain ⟨d0, d2, -⟩ : AllD D true [0, 2] := ideal_sub hp (by decide +kernel)
      obtain ⟨d4, d8, d9, -⟩ : AllD D false [4, 8, 9] := ideal_sub hs (by decide +kernel)
      simp only [d0, d2, d4, d8, d9, h0, cond_true, cond_false]
      refine Run.csA rfl (hra.at hA1) rfl rfl ?_
      refine Run.le ?_ hK
      simp only [d0, d2, d4, d8, d9, h0, Nat.reduceBEq, Bool.false_or, Bool.true_or, cond_true, cond_false]
      exact St.Le.mk' ⟨rfl, rfl, rfl, rfl, rfl, rfl, rfl, rfl, rfl, rfl, rfl, rfl, rfl, rfl, trivial⟩ ⟨rfl, rfl, rfl, rfl, rfl, rfl, trivial⟩
    · intro D hid h0 hp hs rest hK
      obtain ⟨d3, -⟩ : AllD D true [3] := ideal_sub hp (by decide +kernel)
      obtain ⟨d5, d6, d8, d9, -⟩ : AllD D false [5, 6, 8, 9] := ideal_sub hs (by decide +kernel)
      simp only [d3, d5, d6, d8, d9, h0, cond_true, cond_false]
      refine Run.go rfl ?_
      refine Run.le ?_ hK
      simp only [d3, d5, d6, d8, d9, h0, Nat.reduceBEq, Bool.false_or, Bool.true_or, cond_true, cond_false]
      exact St.Le.mk' ⟨rfl, rfl, rfl, rfl, rfl, rfl, rfl, rfl, rfl, rfl, rfl, rfl, rfl, rfl, trivial⟩ ⟨rfl, rfl, rfl, rfl, rfl, rfl, trivial⟩
    · intro D hid h0 hp hs rest hK
      obtain ⟨d4, -⟩ : AllD D true [4] := ideal_sub hp (by decide +kernel)
      obtain ⟨d8, d9, -⟩ : AllD D false [8, 9] := ideal_sub hs (by decide +kernel)
      simp only [d4, d8, d9, h0, cond_true, cond_false]
      refine Run.go rfl ?_
      refine Run.le ?_ hK
      simp only [d4, d8, d9, h0, Nat.reduceBEq, Bool.false_or, Bool.true_or, cond_true, cond_false]
      exact St.Le.mk' ⟨rfl, rfl, rfl, rfl, rfl, rfl, rfl, rfl, rfl, rfl, rfl, rfl, rfl, rfl, trivial⟩ ⟨rfl, rfl, rfl, rfl, rfl, rfl, trivial⟩
    · intro D hid h0 hp hs rest hK
      obtain ⟨d4, -⟩ : AllD D true [4] := ideal_sub hp (by decide +kernel)
      obtain ⟨d9, -⟩ : AllD D false [9] := ideal_sub hs (by decide +kernel)
      simp only [d4, d9, h0, cond_true, cond_false]
      refine Run.go rfl ?_
      refine Run.le ?_ hK
      simp only [d4, d9, h0, Nat.reduceBEq, Bool.false_or, Bool.true_or, cond_true, cond_false]
      exact St.Le.mk' ⟨rfl, rfl, rfl, rfl, rfl, rfl, rfl, rfl, rfl, rfl, rfl, rfl, rfl, rfl, trivial⟩ ⟨rfl, rfl, rfl, rfl, rfl, rfl, trivial⟩
    · intro D hid h0 hp hs rest hK
      obtain ⟨d8, d9, -⟩ : AllD D false [8, 9] := ideal_sub hs (by decide +kernel)
      simp only [d8, d9, h0, cond_true, cond_false]
      refine Run.alloc rfl rfl rfl rfl rfl rfl (by cases D 0 <;> cases D 1 <;> cases D 2 <;> cases D 3 <;> cases D 4 <;> cases D 5 <;> cases D 6 <;> rfl) rfl ?_
      refine Run.le ?_ hK
      simp only [d8, d9, h0, Nat.reduceBEq, Bool.false_or, Bool.true_or, cond_true, cond_false]
      exact St.Le.mk' ⟨rfl, rfl, rfl, rfl, rfl, rfl, rfl, rfl, rfl, rfl, rfl, rfl, rfl, rfl, trivial⟩ ⟨rfl, rfl, rfl, rfl, rfl, rfl, trivial⟩
    · intro D hid h0 hp hs rest hK
      obtain ⟨d0, d1, d2, d3, d4, d5, d7, -⟩ : AllD D true [0, 1, 2, 3, 4, 5, 7] := ideal_sub hp (by decide +kernel)
      obtain ⟨d9, -⟩ : AllD D false [9] := ideal_sub hs (by decide +kernel)
      simp only [d0, d1, d2, d3, d4, d5, d7, d9, h0, cond_true, cond_false]
      refine Run.go rfl ?_
      refine Run.le ?_ hK
      simp only [d0, d1, d2, d3, d4, d5, d7, d9, h0, Nat.reduceBEq, Bool.false_or, Bool.true_or, cond_true, cond_false]
      exact St.Le.mk' ⟨rfl, rfl, rfl, rfl, rfl, rfl, rfl, rfl, rfl, rfl, rfl, rfl, rfl, rfl, trivial⟩ ⟨rfl, rfl, rfl, rfl, rfl, rfl, trivial⟩
    · intro D hid h0 hp hs rest hK
      obtain ⟨d0, d1, d2, d3, d4, d5, d6, d7, d8, -⟩ : AllD D true [0, 1, 2, 3, 4, 5, 6, 7, 8] := ideal_sub hp (by decide +kernel)
      simp only [d0, d1, d2, d3, d4, d5, d6, d7, d8, h0, cond_true, cond_false]
      refine Run.go rfl ?_
      refine Run.le ?_ hK
      simp only [d0, d1, d2, d3, d4, d5, d6, d7, d8, h0, Nat.reduceBEq, Bool.false_or, Bool.true_or, cond_true, cond_false]
      exact St.Le.mk' ⟨rfl, rfl, rfl, rfl, rfl, rfl, rfl, rfl, rfl, rfl, rfl, rfl, rfl, rfl, trivial⟩ ⟨rfl, rfl, rfl, rfl, rfl, rfl, trivial⟩
    repeat (refine Run.go rfl ?_)
    refine Run.cond rfl (fun h => ?_) (fun h => ?_)
    · repeat (refine Run.go rfl ?_)
      exact Run.roundRet hgr (hIx1 (by simpa using h)) (St.Le.mk' ⟨rfl, rfl, trivial⟩ ⟨rfl, rfl, rfl, trivial⟩)
    · refine Run.unBox (8, 0) 0 (8, 1) rfl rfl rfl (by decide) ?_
      repeat (refine Run.go rfl ?_)
      refine Run.buildSlice [acA A] rfl rfl rfl rfl rfl rfl rfl rfl rfl rfl rfl rfl rfl rfl ?_
      refine Run.appendo rfl rfl rfl rfl rfl rfl rfl rfl rfl rfl rfl rfl rfl rfl (by show (Ys.length + 1) * 3 ≤ 140737488355328; omega) (by simp [capMax]; omega) (by decide) rfl ?_
      refine Run.unpack 40 rfl rfl ?_
      repeat (refine Run.go rfl ?_)
      refine Run.packBox (8, 0) 0 rfl rfl rfl rfl ?_
      repeat (refine Run.go rfl ?_)
      exact Run.roundEnd hgr (by rw [hIn1]; simpa using h) (St.Le.mk' ⟨rfl, rfl, rfl, rfl, trivial⟩ ⟨rfl, rfl, rfl, rfl, rfl, trivial⟩)
  · intro g2 D hA2 hg2 hD hall
    have hN : ((lnE s).map fun l => Value.string ⟨l.toArray⟩).length = ls.length := by rw [hs2]; simp
    rw [hN, hls, List.take_length] at hall
    have hR : rdLA s = (ls.map raA, true) := by rw [rdLA, h, hls, hall]; rfl
    rw [hR] at hg2
    have hSn : rdSt s ls.length = ⟨[(5, .bp (5, 0) 0), (6, .bp (6, 0) 0), (7, .bp (7, 0) 0), (8, .bp (8, 0) 0)],
        [((5, 0), .box [.fn 39 []]), ((6, 0), .box [.lit (.slice none 0 0)]), ((7, 0), .box [bo false]), ((8, 0), .box [.own 3 false ((ls.map raA).map acA)])]⟩ := by
      rw [rdSt, hls, List.take_length, List.map_map]; rfl
    rw [hN, hSn]
    generalize (ls.map raA) = As at hg2
    refine Run.unBox (8, 0) 0 (8, 1) rfl rfl rfl (by decide) ?_
    repeat (refine Run.go rfl ?_)
    refine Run.packBox (6, 0) 0 rfl rfl rfl rfl ?_
    exact Run.retM hg2 hD rfl rfl
  · intro n g2 D hA2 hg2 hD hall
    have hR : rdLA s = ([], false) := by rw [rdLA, hall]; simp
    rw [hR] at hg2
    refine Run.nilBox (6, 0) 0 3 false rfl rfl ?_
    exact Run.retM hg2 hD rfl rfl
end Go.Proofs.YtjajfepcknieeaaGreatDoor
