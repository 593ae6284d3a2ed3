/- Contracts of the program's functions, and what follows from them. -/
import Derived.Test.YtahdgoddpkmhbaaB2
set_option linter.unusedVariables false
namespace Go.Proofs.Ytahdgoddpkmhbaa
open Go Go.Av

/-! The heaviest books next to each other. -/

def sW (l : List Bk) : Int := (l.map Bk.wd).sum
def sT (l : List Bk) : Int := (l.map Bk.wt).sum
def tH (l : List Bk) : Int := l.foldl (fun m x => if x.hi > m then x.hi else m) 0

theorem sW_snoc (l : List Bk) (x : Bk) : sW (l ++ [x]) = sW l + x.wd := by simp [sW]
theorem sT_snoc (l : List Bk) (x : Bk) : sT (l ++ [x]) = sT l + x.wt := by simp [sT]
theorem tH_snoc (l : List Bk) (x : Bk) : tH (l ++ [x]) = if x.hi > tH l then x.hi else tH l := by simp [tH]
theorem sW_bd (l : List Bk) (h : ∀ x ∈ l, bkRng x) : -32768 * (l.length : Int) ≤ sW l ∧ sW l ≤ 32768 * (l.length : Int) := by
  induction l with
  | nil => simp [sW]
  | cons x l ih =>
    have h1 := ih fun y hy => h y (by simp [hy])
    have h2 := (h x (by simp)).2.2.2.2.2.1
    unfold i16r at h2
    have e : sW (x :: l) = x.wd + sW l := by simp [sW]
    rw [e, List.length_cons]
    omega
theorem sT_bd (l : List Bk) (h : ∀ x ∈ l, bkRng x) : -32768 * (l.length : Int) ≤ sT l ∧ sT l ≤ 32768 * (l.length : Int) := by
  induction l with
  | nil => simp [sT]
  | cons x l ih =>
    have h1 := ih fun y hy => h y (by simp [hy])
    have h2 := (h x (by simp)).2.2.2.2.2.2.2
    unfold i16r at h2
    have e : sT (x :: l) = x.wt + sT l := by simp [sT]
    rw [e, List.length_cons]
    omega

noncomputable def X42 : Fx := ⟨Try.prog, tys, 42, Try.f42, [0]⟩
theorem X42_ok : X42.Ok := ⟨Try.func42, tys_ok⟩
theorem totals_ct (l : List Bk) (ex : Bool) (hlen : l.length ≤ 1048576) (hr : ∀ x ∈ l, bkRng x) : Ct Try.prog 42 [.ro 8 ex (l.map bkA)] (.agg [i64 (sW l), i64 (tH l), i64 (sT l)]) [] := by
  refine Ct.intro X42 X42_ok rfl rfl rfl rfl fun g hg => ?_
  repeat (refine Run.go rfl ?_)
  refine Run.loop (fun j : Nat => ⟨[(2, .bp (2, 0) 0), (3, .bp (3, 0) 0), (6, .ro 8 ex (l.map bkA)), (7, i64 l.length), (8, i64 j)], [((2, 0), .box [i64 0, i64 0, i64 0]), ((3, 0), .box [i64 (sW (l.take j)), i64 (tH (l.take j)), i64 (sT (l.take j))])]⟩) (fun j => j ≤ l.length) (fun j => l.length - j) 0 (by omega) ?_ ?_
  · refine St.Le.mk' ⟨rfl, rfl, rfl, ?_, rfl, trivial⟩ ⟨rfl, rfl, trivial⟩
    show i64 (l.map bkA).length = _
    simp
  intro j hj IH
  repeat (refine Run.go rfl ?_)
  refine Run.cond rfl (fun h => ?_) (fun h => ?_)
  · have hlt : j < l.length := by simpa using h
    have hx := hr l[j] (by simp)
    have b1 := sW_bd (l.take j) fun y hy => hr y (List.mem_of_mem_take hy)
    have b2 := sT_bd (l.take j) fun y hy => hr y (List.mem_of_mem_take hy)
    rw [List.length_take, Nat.min_eq_left hj] at b1 b2
    have e1 := sW_snoc (l.take j) l[j]
    have e2 := sT_snoc (l.take j) l[j]
    have e3 := tH_snoc (l.take j) l[j]
    rw [← List.take_succ_eq_append_getElem hlt] at e1 e2 e3
    have w1 := w64 hx.2.2.2.2.2.1
    have w2 := w64 hx.2.2.2.2.2.2.1
    have w3 := w64 hx.2.2.2.2.2.2.2
    have c1 := hx.2.2.2.2.2.1
    have c2 := hx.2.2.2.2.2.2.2
    unfold i16r at c1 c2
    repeat (refine Run.go rfl ?_)
    refine Run.val rfl rfl rfl (ValOk.idx (bkA l[j]) rfl rfl rfl rfl rfl (by omega) (by simp [hlt])) rfl ?_
    repeat (refine Run.go rfl ?_)
    refine Run.of (IH (j + 1) (by omega) (by omega)) ⟨rfl, rfl, rfl, rfl, ?_, trivial⟩ ⟨rfl, ?_, trivial⟩
    · show i64 _ = _
      rw [wrap_i64 (by omega) (by omega)]
      rfl
    · show Ob.box [i64 (IntKind.i64.wrap (sW (l.take j) + IntKind.i64.wrap l[j].wd)), i64 (if IntKind.i64.wrap l[j].hi > tH (l.take j) then IntKind.i64.wrap l[j].hi else tH (l.take j)), i64 (IntKind.i64.wrap (sT (l.take j) + IntKind.i64.wrap l[j].wt))] = Ob.box [i64 (sW (l.take (j + 1))), i64 (tH (l.take (j + 1))), i64 (sT (l.take (j + 1)))]
      rw [w1, w2, w3, e1, e2, e3, wrap_i64 (by omega) (by omega), wrap_i64 (by omega) (by omega)]
  · have hj' : j = l.length := by simp at h; omega
    subst hj'
    rw [List.take_length]
    repeat (refine Run.go rfl ?_)
    exact Run.ret hg rfl rfl

def part (l : List Bk) (i k : Nat) : List Bk := (l.take k).drop i
def hsStep (l : List Bk) (w : Int) (i k : Nat) (s : Int × Int × Int) : Int × Int × Int := if sW (part l i k) ≤ w ∧ s.2.2 < sT (part l i k) then ((i : Int), (k : Int) - i, sT (part l i k)) else s
def hsIn (l : List Bk) (w : Int) (i : Nat) (s : Int × Int × Int) : Nat → Int × Int × Int
  | 0 => s
  | m + 1 => hsStep l w i (i + m + 1) (hsIn l w i s m)
def hs (l : List Bk) (w : Int) : Nat → Int × Int × Int
  | 0 => (0, 0, 0)
  | i + 1 => hsIn l w i (hs l w i) (l.length - i)
def hsRes (l : List Bk) (w : Int) : AV :=
  if vBs l then (if inr w 1 6000 then (if (hs l w l.length).2.1 = 0 then .tup [i64 0, i64 0, i64 0, i64 6] else .tup [i64 (hs l w l.length).1, i64 (hs l w l.length).2.1, i64 (hs l w l.length).2.2, i64 0]) else .tup [i64 0, i64 0, i64 0, i64 2]) else .tup [i64 0, i64 0, i64 0, i64 1]

theorem part_snoc {l : List Bk} {i k : Nat} (h : k < l.length) (hi : i ≤ k) : part l i (k + 1) = part l i k ++ [l[k]] := by
  unfold part
  rw [List.take_succ_eq_append_getElem h, List.drop_append_of_le_length (by rw [List.length_take]; omega)]
theorem part_mem {l : List Bk} {i k : Nat} {x : Bk} (h : x ∈ part l i k) : x ∈ l := List.mem_of_mem_take (List.mem_of_mem_drop h)
theorem part_len (l : List Bk) (i k : Nat) : (part l i k).length ≤ l.length := by
  unfold part
  rw [List.length_drop, List.length_take]
  omega
theorem part_self (l : List Bk) (i : Nat) : part l i i = [] := by
  unfold part
  exact List.drop_eq_nil_of_le (by rw [List.length_take]; omega)

noncomputable def X12 : Fx := ⟨Try.prog, tys, 12, Try.f12, [0, 1]⟩
theorem X12_ok : X12.Ok := ⟨Try.func12, tys_ok⟩
theorem specHeaviestShelf_ct (l : List Bk) (ex : Bool) (w : Int) (hlen : l.length ≤ 1048576) (hr : ∀ x ∈ l, bkRng x) : Ct Try.prog 12 [.ro 8 ex (l.map bkA), i64 w] (hsRes l w) [] := by
  refine Ct.intro X12 X12_ok rfl (by kernel_rfl) rfl rfl fun g hg => ?_
  repeat (refine Run.go rfl ?_)
  refine Run.cs rfl (l01Ok_ct l ex hlen hr) rfl rfl ?_
  repeat (refine Run.go rfl ?_)
  refine Run.cond rfl (fun h => ?_) (fun h => ?_)
  · have h : vBs l = false := by simpa using h
    repeat (refine Run.go rfl ?_)
    refine Run.ret hg rfl ?_
    rw [hsRes, h]
    rfl
  have hv : vBs l = true := by simpa using h
  repeat (refine Run.go rfl ?_)
  refine Run.cs rfl (l00In_ct w 1 6000) rfl rfl ?_
  repeat (refine Run.go rfl ?_)
  refine Run.cond rfl (fun h => ?_) (fun h => ?_)
  · have h : inr w 1 6000 = false := by simpa using h
    repeat (refine Run.go rfl ?_)
    refine Run.ret hg rfl ?_
    rw [hsRes, hv, h]
    rfl
  have hw : inr w 1 6000 = true := by simpa using h
  have hw2 : 1 ≤ w ∧ w ≤ 6000 := by simpa [inr] using hw
  repeat (refine Run.go rfl ?_)
  refine Run.loop (fun i : Nat => ⟨[(0, .ro 8 ex (l.map bkA)), (1, i64 w), (8, i64 (hs l w i).1), (9, i64 (hs l w i).2.1), (10, i64 (hs l w i).2.2), (11, i64 i)], []⟩) (fun i => i ≤ l.length) (fun i => l.length - i) 0 (by omega) ?_ ?_
  · exact St.Le.mk' ⟨rfl, rfl, rfl, rfl, rfl, rfl, trivial⟩ trivial
  intro i hi IH
  repeat (refine Run.go rfl ?_)
  refine Run.cond rfl (fun h => ?_) (fun h => ?_)
  · have hlt : i < l.length := by simpa using h
    repeat (refine Run.go rfl ?_)
    refine Run.loop (fun m : Nat => ⟨[(0, .ro 8 ex (l.map bkA)), (1, i64 w), (8, i64 (hsIn l w i (hs l w i) m).1), (9, i64 (hsIn l w i (hs l w i) m).2.1), (10, i64 (hsIn l w i (hs l w i) m).2.2), (11, i64 i), (12, i64 (w - sW (part l i (i + m)))), (13, i64 (sT (part l i (i + m)))), (14, i64 ((i + m : Nat) : Int))], []⟩) (fun m => i + m ≤ l.length) (fun m => l.length - (i + m)) 0 (by omega) ?_ ?_
    · refine St.Le.mk' ⟨rfl, rfl, rfl, rfl, rfl, rfl, ?_, ?_, rfl, trivial⟩ trivial
      · show i64 w = i64 (w - sW (part l i i))
        rw [part_self]
        simp [sW]
      · show i64 0 = i64 (sT (part l i i))
        rw [part_self]
        rfl
    intro m hm IH2
    repeat (refine Run.go rfl ?_)
    refine Run.cond rfl (fun h => ?_) (fun h => ?_)
    · have hlt2 : i + m < l.length := by simp at h; omega
      have hx := hr l[i + m] (by simp)
      have ps := part_snoc hlt2 (Nat.le_add_right i m)
      have b1 := sW_bd (part l i (i + m)) fun y hy => hr y (part_mem hy)
      have b2 := sT_bd (part l i (i + m)) fun y hy => hr y (part_mem hy)
      have pl := part_len l i (i + m)
      have e1 := sW_snoc (part l i (i + m)) l[i + m]
      have e2 := sT_snoc (part l i (i + m)) l[i + m]
      rw [← ps] at e1 e2
      have w1 := w64 hx.2.2.2.2.2.1
      have w3 := w64 hx.2.2.2.2.2.2.2
      have c1 := hx.2.2.2.2.2.1
      have c2 := hx.2.2.2.2.2.2.2
      unfold i16r at c1 c2
      have hstep : hsIn l w i (hs l w i) (m + 1) = hsStep l w i (i + m + 1) (hsIn l w i (hs l w i) m) := rfl
      generalize hsIn l w i (hs l w i) m = s at hstep
      obtain ⟨s1, s2, s3⟩ := s
      repeat (refine Run.go rfl ?_)
      refine Run.val rfl rfl rfl (ValOk.idx (bkA l[i + m]) rfl rfl rfl rfl rfl (by omega) (by simp only [Int.toNat_natCast, List.getElem?_map, List.getElem?_eq_getElem hlt2, Option.map_some])) rfl ?_
      repeat (refine Run.go rfl ?_)
      refine Run.val rfl rfl rfl (ValOk.idx (bkA l[i + m]) rfl rfl rfl rfl rfl (by omega) (by simp only [Int.toNat_natCast, List.getElem?_map, List.getElem?_eq_getElem hlt2, Option.map_some])) rfl ?_
      repeat (refine Run.go rfl ?_)
      rw [w1, w3, wrap_i64 (n := w - sW (part l i (i + m)) - l[i + m].wd) (by omega) (by omega), wrap_i64 (n := sT (part l i (i + m)) + l[i + m].wt) (by omega) (by omega)]
      rw [show w - sW (part l i (i + m)) - l[i + m].wd = w - sW (part l i (i + m + 1)) by rw [e1]; omega, ← e2]
      have ek : IntKind.i64.wrap (((i + m : Nat) : Int) + 1) = ((i + (m + 1) : Nat) : Int) := by rw [wrap_i64 (by omega) (by omega)]; omega
      refine Run.bool 53 rfl (fun hA => ?_) (fun hA => ?_)
      · have hA : sW (part l i (i + m + 1)) ≤ w := by simp at hA; omega
        repeat (refine Run.go rfl ?_)
        refine Run.cond rfl (fun hB => ?_) (fun hB => ?_)
        · have hB : s3 < sT (part l i (i + m + 1)) := by simpa using hB
          have hs1 : hsStep l w i (i + m + 1) (s1, s2, s3) = ((i : Int), ((i + m + 1 : Nat) : Int) - i, sT (part l i (i + m + 1))) := by rw [hsStep, if_pos ⟨hA, hB⟩]
          rw [hs1] at hstep
          repeat (refine Run.go rfl ?_)
          refine Run.of (IH2 (m + 1) (by omega) (by omega)) ⟨rfl, rfl, ?_, ?_, ?_, rfl, rfl, rfl, ?_, trivial⟩ trivial
          · rw [hstep]
            rfl
          · rw [hstep]
            show i64 (IntKind.i64.wrap (IntKind.i64.wrap (((i + m : Nat) : Int) - i) + 1)) = i64 (((i + m + 1 : Nat) : Int) - i)
            rw [wrap_i64 (n := ((i + m : Nat) : Int) - i) (by omega) (by omega), wrap_i64 (by omega) (by omega)]
            exact congrArg i64 (by omega)
          · rw [hstep]
            rfl
          · exact congrArg i64 ek
        · have hB : ¬ s3 < sT (part l i (i + m + 1)) := by simpa using hB
          rw [hsStep, if_neg (fun h => hB h.2)] at hstep
          repeat (refine Run.go rfl ?_)
          refine Run.of (IH2 (m + 1) (by omega) (by omega)) ⟨rfl, rfl, ?_, ?_, ?_, rfl, rfl, rfl, ?_, trivial⟩ trivial
          · rw [hstep]
            rfl
          · rw [hstep]
            rfl
          · rw [hstep]
            rfl
          · exact congrArg i64 ek
      · have hA : ¬ sW (part l i (i + m + 1)) ≤ w := by simp at hA; omega
        rw [hsStep, if_neg (fun h => hA h.1)] at hstep
        repeat (refine Run.go rfl ?_)
        refine Run.cond rfl (fun hB => by simp at hB) (fun hB => ?_)
        repeat (refine Run.go rfl ?_)
        refine Run.of (IH2 (m + 1) (by omega) (by omega)) ⟨rfl, rfl, ?_, ?_, ?_, rfl, rfl, rfl, ?_, trivial⟩ trivial
        · rw [hstep]
          rfl
        · rw [hstep]
          rfl
        · rw [hstep]
          rfl
        · exact congrArg i64 ek
    · have hm' : m = l.length - i := by simp at h; omega
      subst hm'
      have hstep : hs l w (i + 1) = hsIn l w i (hs l w i) (l.length - i) := rfl
      repeat (refine Run.go rfl ?_)
      refine Run.of (IH (i + 1) (by omega) (by omega)) ⟨rfl, rfl, ?_, ?_, ?_, ?_, trivial⟩ trivial
      · rw [hstep]
        rfl
      · rw [hstep]
        rfl
      · rw [hstep]
        rfl
      · show i64 _ = _
        rw [wrap_i64 (by omega) (by omega)]
        rfl
  · have hi' : i = l.length := by simp at h; omega
    subst hi'
    repeat (refine Run.go rfl ?_)
    refine Run.cond rfl (fun h => ?_) (fun h => ?_)
    · have h : (hs l w l.length).2.1 = 0 := by simpa using h
      repeat (refine Run.go rfl ?_)
      refine Run.ret hg rfl ?_
      rw [hsRes, hv, hw, if_pos rfl, if_pos rfl, if_pos h]
      rfl
    · have h : (hs l w l.length).2.1 ≠ 0 := by simpa using h
      repeat (refine Run.go rfl ?_)
      refine Run.ret hg rfl ?_
      rw [hsRes, hv, hw, if_pos rfl, if_pos rfl, if_neg h]
      rfl

noncomputable def X14 : Fx := ⟨Try.prog, tys, 14, Try.f14, [0, 1]⟩
theorem X14_ok : X14.Ok := ⟨Try.func14, tys_ok⟩
theorem implHeaviestShelf_ct (l : List Bk) (ex : Bool) (w : Int) (hlen : l.length ≤ 1048576) (hr : ∀ x ∈ l, bkRng x) : Ct Try.prog 14 [.ro 8 ex (l.map bkA), i64 w] (hsRes l w) [] := by
  refine Ct.intro X14 X14_ok rfl (by kernel_rfl) rfl rfl fun g hg => ?_
  repeat (refine Run.go rfl ?_)
  refine Run.cs rfl (validBooks_ct l ex hlen) rfl rfl ?_
  repeat (refine Run.go rfl ?_)
  refine Run.cond rfl (fun h => ?_) (fun h => ?_)
  · have h : vBs l = false := by simpa using h
    repeat (refine Run.go rfl ?_)
    refine Run.ret hg rfl ?_
    rw [hsRes, h]
    rfl
  have hv : vBs l = true := by simpa using h
  repeat (refine Run.go rfl ?_)
  refine Run.cs rfl (within64_ct w 1 6000) rfl rfl ?_
  repeat (refine Run.go rfl ?_)
  refine Run.cond rfl (fun h => ?_) (fun h => ?_)
  · have h : inr w 1 6000 = false := by simpa using h
    repeat (refine Run.go rfl ?_)
    refine Run.ret hg rfl ?_
    rw [hsRes, hv, h]
    rfl
  have hw : inr w 1 6000 = true := by simpa using h
  have hw2 : 1 ≤ w ∧ w ≤ 6000 := by simpa [inr] using hw
  repeat (refine Run.go rfl ?_)
  refine Run.loop (fun i : Nat => ⟨[(0, .ro 8 ex (l.map bkA)), (1, i64 w), (8, i64 (hs l w i).1), (9, i64 (hs l w i).2.1), (10, i64 (hs l w i).2.2), (23, i64 l.length), (24, i64 i)], []⟩) (fun i => i ≤ l.length) (fun i => l.length - i) 0 (by omega) ?_ ?_
  · refine St.Le.mk' ⟨rfl, rfl, rfl, rfl, rfl, ?_, rfl, trivial⟩ trivial
    show i64 (l.map bkA).length = _
    simp
  intro i hi IH
  repeat (refine Run.go rfl ?_)
  refine Run.cond rfl (fun h => ?_) (fun h => ?_)
  · have hlt : i < l.length := by simpa using h
    repeat (refine Run.go rfl ?_)
    refine Run.loop (fun m : Nat => ⟨[(0, .ro 8 ex (l.map bkA)), (1, i64 w), (8, i64 (hsIn l w i (hs l w i) m).1), (9, i64 (hsIn l w i (hs l w i) m).2.1), (10, i64 (hsIn l w i (hs l w i) m).2.2), (11, i64 i), (12, i64 ((i + m + 1 : Nat) : Int)), (23, i64 l.length), (24, i64 i)], []⟩) (fun m => i + m ≤ l.length) (fun m => l.length - (i + m)) 0 (by omega) ?_ ?_
    · refine St.Le.mk' ⟨rfl, rfl, rfl, rfl, rfl, rfl, ?_, rfl, rfl, trivial⟩ trivial
      show i64 _ = _
      rw [wrap_i64 (by omega) (by omega)]
      rfl
    intro m hm IH2
    repeat (refine Run.go rfl ?_)
    refine Run.cond rfl (fun h => ?_) (fun h => ?_)
    · have hlt2 : i + m < l.length := by simp at h; omega
      have b1 := sW_bd (part l i (i + m + 1)) fun y hy => hr y (part_mem hy)
      have pl := part_len l i (i + m + 1)
      have hstep : hsIn l w i (hs l w i) (m + 1) = hsStep l w i (i + m + 1) (hsIn l w i (hs l w i) m) := rfl
      generalize hsIn l w i (hs l w i) m = s at hstep
      obtain ⟨s1, s2, s3⟩ := s
      have ek : IntKind.i64.wrap (((i + m + 1 : Nat) : Int) + 1) = ((i + (m + 1) + 1 : Nat) : Int) := by rw [wrap_i64 (by omega) (by omega)]; omega
      repeat (refine Run.go rfl ?_)
      refine Run.val rfl rfl rfl (ValOk.cut (ys := (part l i (i + m + 1)).map bkA) (l := (i : Int)) (h := ((i + m + 1 : Nat) : Int)) rfl rfl rfl rfl rfl rfl (by omega) (by omega) (by simp; omega) (by simp only [Int.toNat_natCast, part, List.map_drop, List.map_take])) rfl ?_
      refine Run.cs rfl (totals_ct (part l i (i + m + 1)) false (by omega) fun y hy => hr y (part_mem hy)) rfl rfl ?_
      repeat (refine Run.go rfl ?_)
      refine Run.bool 44 rfl (fun hA => ?_) (fun hA => ?_)
      · have hA : sW (part l i (i + m + 1)) ≤ w := by simpa using hA
        repeat (refine Run.go rfl ?_)
        refine Run.cond rfl (fun hB => ?_) (fun hB => ?_)
        · have hB : s3 < sT (part l i (i + m + 1)) := by simpa using hB
          have hs1 : hsStep l w i (i + m + 1) (s1, s2, s3) = ((i : Int), ((i + m + 1 : Nat) : Int) - i, sT (part l i (i + m + 1))) := by rw [hsStep, if_pos ⟨hA, hB⟩]
          rw [hs1] at hstep
          repeat (refine Run.go rfl ?_)
          refine Run.draw (by kernel_rfl) (by decide +kernel) ?_
          repeat (refine Quiet.go rfl ?_)
          refine Quiet.nil ?_
          repeat (refine Run.go rfl ?_)
          refine Run.of (IH2 (m + 1) (by omega) (by omega)) ⟨rfl, rfl, ?_, ?_, ?_, rfl, ?_, rfl, rfl, trivial⟩ trivial
          · rw [hstep]
            rfl
          · rw [hstep]
            show i64 (IntKind.i64.wrap (((i + m + 1 : Nat) : Int) - i)) = i64 (((i + m + 1 : Nat) : Int) - i)
            rw [wrap_i64 (by omega) (by omega)]
          · rw [hstep]
            rfl
          · exact congrArg i64 ek
        · have hB : ¬ s3 < sT (part l i (i + m + 1)) := by simpa using hB
          rw [hsStep, if_neg (fun h => hB h.2)] at hstep
          repeat (refine Run.go rfl ?_)
          refine Run.of (IH2 (m + 1) (by omega) (by omega)) ⟨rfl, rfl, ?_, ?_, ?_, rfl, ?_, rfl, rfl, trivial⟩ trivial
          · rw [hstep]
            rfl
          · rw [hstep]
            rfl
          · rw [hstep]
            rfl
          · exact congrArg i64 ek
      · have hA : ¬ sW (part l i (i + m + 1)) ≤ w := by simpa using hA
        rw [hsStep, if_neg (fun h => hA h.1)] at hstep
        repeat (refine Run.go rfl ?_)
        refine Run.cond rfl (fun hB => by simp at hB) (fun hB => ?_)
        repeat (refine Run.go rfl ?_)
        refine Run.of (IH2 (m + 1) (by omega) (by omega)) ⟨rfl, rfl, ?_, ?_, ?_, rfl, ?_, rfl, rfl, trivial⟩ trivial
        · rw [hstep]
          rfl
        · rw [hstep]
          rfl
        · rw [hstep]
          rfl
        · exact congrArg i64 ek
    · have hm' : m = l.length - i := by simp at h; omega
      subst hm'
      have hstep : hs l w (i + 1) = hsIn l w i (hs l w i) (l.length - i) := rfl
      repeat (refine Run.go rfl ?_)
      refine Run.of (IH (i + 1) (by omega) (by omega)) ⟨rfl, rfl, ?_, ?_, ?_, rfl, ?_, trivial⟩ trivial
      · rw [hstep]
        rfl
      · rw [hstep]
        rfl
      · rw [hstep]
        rfl
      · show i64 _ = _
        rw [wrap_i64 (by omega) (by omega)]
        rfl
  · have hi' : i = l.length := by simp at h; omega
    subst hi'
    repeat (refine Run.go rfl ?_)
    refine Run.cond rfl (fun h => ?_) (fun h => ?_)
    · have h : (hs l w l.length).2.1 = 0 := by simpa using h
      repeat (refine Run.go rfl ?_)
      refine Run.ret hg rfl ?_
      rw [hsRes, hv, hw, if_pos rfl, if_pos rfl, if_pos h]
      rfl
    · have h : (hs l w l.length).2.1 ≠ 0 := by simpa using h
      repeat (refine Run.go rfl ?_)
      refine Run.ret hg rfl ?_
      rw [hsRes, hv, hw, if_pos rfl, if_pos rfl, if_neg h]
      rfl
end Go.Proofs.Ytahdgoddpkmhbaa
