/- Contracts of the program's functions, and what follows from them. -/
import Derived.Test.YtoeocaenflkajaaD3
set_option linter.unusedVariables false
namespace Go.Proofs.Ytoeocaenflkajaa
open Go Go.Av

/-- Numbers from k on, as the marks are. -/
def mk8 (n : Nat) (k : Int) : List Int := (List.range n).map fun i : Nat => IntKind.i8.wrap (k + (i : Int))

noncomputable def X88 : Fx := ⟨Try.prog, tys, 88, Try.f88, [0]⟩
theorem X88_ok : X88.Ok := ⟨Try.func88, tys_ok⟩
theorem markInt8S_ct (l : List Int) (k : Int) (hb : l.length ≤ 1048576) (hk : 0 ≤ k ∧ k ≤ 1099511627776) : Ct Try.prog 88 [.own 1 true (l.map i8), i64 k] (i64 (k + l.length)) [.own 1 true ((mk8 l.length k).map i8)] := by
  refine Ct.intro X88 X88_ok rfl rfl rfl rfl fun g hg => ?_
  refine Run.unpack 0 rfl rfl ?_
  repeat (refine Run.go rfl ?_)
  refine Run.loop (fun j : Nat => ⟨[(0, .vec (0, 0) 0 l.length), (1, i64 (k + j)), (5, i64 j)], [((0, 0), .vec 1 true ((mk8 j k).map i8 ++ (l.drop j).map i8))]⟩) (fun j => j ≤ l.length) (fun j => l.length - j) 0 (by omega) ?_ ?_
  · refine St.Le.mk' ⟨?_, ?_, rfl, trivial⟩ ⟨?_, trivial⟩
    · show AV.vec _ _ (l.map i8).length = _
      simp
    · show i64 k = _
      simp
    · show Ob.vec _ _ _ = _
      simp [mk8]
  · intro j hj IH
    repeat (refine Run.go rfl ?_)
    refine Run.cond rfl (fun h => ?_) (fun h => ?_)
    · have hlt : j < l.length := by simpa using h
      repeat (refine Run.go rfl ?_)
      refine Run.val rfl rfl rfl (ValOk.idxv rfl rfl rfl rfl rfl rfl (by omega) (by simp; omega)) rfl ?_
      refine Run.storee (i8 l[j]) (i8 (IntKind.i8.wrap (k + j))) rfl rfl rfl rfl rfl rfl rfl ?_ rfl rfl rfl ?_
      · simp only [Nat.zero_add, Int.toNat_natCast]
        rw [List.getElem?_append_right (by simp [mk8])]
        simp [mk8, hlt]
      repeat (refine Run.go rfl ?_)
      refine Run.of (IH (j + 1) (by omega) (by omega)) ⟨rfl, ?_, ?_, trivial⟩ ⟨?_, trivial⟩
      · show i64 (IntKind.i64.wrap (k + j + 1)) = _
        rw [wrap_i64 (by omega) (by omega)]
        exact congrArg i64 (by omega)
      · show i64 _ = _
        rw [wrap_i64 (by omega) (by omega)]
        rfl
      · show Ob.vec _ _ _ = _
        congr 1
        simp only [Nat.zero_add, Int.toNat_natCast]
        rw [List.drop_eq_getElem_cons hlt, List.map_cons, List.set_append_right _ _ (by simp [mk8])]
        simp [mk8, List.range_succ]
    · have hj' : j = l.length := by simp at h; omega
      subst hj'
      repeat (refine Run.go rfl ?_)
      refine Run.pack 0 rfl rfl (by simp [mk8]) ?_
      refine Run.reto hg rfl rfl rfl ?_ rfl rfl
      show AV.own _ _ _ = _
      simp

/-- A copy that is marked from k on. -/
def mkC (c : Cp) (k : Int) : Cp := ⟨IntKind.i8.wrap k, IntKind.i8.wrap (k + 1), IntKind.i16.wrap (k + 2), IntKind.i8.wrap (k + 3), mk8 c.q.length (k + 4)⟩
def cnt (l : List Cp) : Nat := (l.map fun c => c.q.length + 4).sum
def mkCs : List Cp → Int → List Cp
  | [], _ => []
  | c :: l, k => mkC c k :: mkCs l (k + (c.q.length + 4 : Nat))

theorem mkCs_len (l : List Cp) (k : Int) : (mkCs l k).length = l.length := by
  induction l generalizing k with
  | nil => rfl
  | cons c l ih => simp [mkCs, ih]
theorem cnt_cons (c : Cp) (l : List Cp) : cnt (c :: l) = c.q.length + 4 + cnt l := by simp [cnt]
theorem cnt_append (l m : List Cp) : cnt (l ++ m) = cnt l + cnt m := by simp [cnt]
theorem mkCs_append (l m : List Cp) (k : Int) : mkCs (l ++ m) k = mkCs l k ++ mkCs m (k + (cnt l : Nat)) := by
  induction l generalizing k with
  | nil => simp [mkCs, cnt]
  | cons c l ih =>
    simp only [List.cons_append, mkCs, ih, cnt_cons]
    congr 3
    omega
theorem mkCs_step {l : List Cp} {j : Nat} (h : j < l.length) (k : Int) : mkCs (l.take (j + 1)) k = mkCs (l.take j) k ++ [mkC l[j] (k + (cnt (l.take j) : Nat))] := by
  rw [List.take_succ_eq_append_getElem h, mkCs_append]
  rfl
theorem cnt_step {l : List Cp} {j : Nat} (h : j < l.length) : cnt (l.take (j + 1)) = cnt (l.take j) + (l[j].q.length + 4) := by
  rw [List.take_succ_eq_append_getElem h, cnt_append]
  rfl
theorem cnt_take (l : List Cp) (j : Nat) : cnt (l.take j) ≤ cnt l := by
  have := cnt_append (l.take j) (l.drop j)
  rw [List.take_append_drop] at this
  omega

noncomputable def X51 : Fx := ⟨Try.prog, tys, 51, Try.f51, [0]⟩
theorem X51_ok : X51.Ok := ⟨Try.func51, tys_ok⟩
theorem markCopyS_ct (l : List Cp) (k : Int) (hb : l.length ≤ 1048576) (hq : ∀ c ∈ l, c.q.length ≤ 1048576) (hc : cnt l ≤ 1099511627776) (hk : 0 ≤ k ∧ k + (cnt l : Nat) ≤ 1099511627776) :
    Ct Try.prog 51 [.own 5 true (l.map cpO), i64 k] (i64 (k + (cnt l : Nat))) [.own 5 true ((mkCs l k).map cpO)] := by
  refine Ct.intro X51 X51_ok rfl rfl rfl rfl fun g hg => ?_
  refine Run.unpack 0 rfl rfl ?_
  repeat (refine Run.go rfl ?_)
  refine Run.loop (fun j : Nat => ⟨[(0, .vec (0, 0) 0 l.length), (1, i64 (k + (cnt (l.take j) : Nat))), (5, i64 j)], [((0, 0), .vec 5 true ((mkCs (l.take j) k).map cpO ++ (l.drop j).map cpO))]⟩) (fun j => j ≤ l.length) (fun j => l.length - j) 0 (by omega) ?_ ?_
  · refine St.Le.mk' ⟨?_, ?_, rfl, trivial⟩ ⟨?_, trivial⟩
    · show AV.vec _ _ (l.map cpO).length = _
      simp
    · show i64 k = _
      simp [cnt]
    · show Ob.vec _ _ _ = _
      simp [mkCs]
  · intro j hj IH
    repeat (refine Run.go rfl ?_)
    refine Run.cond rfl (fun h => ?_) (fun h => ?_)
    · have hlt : j < l.length := by simpa using h
      have hct := cnt_take l j
      have hct1 := cnt_take l (j + 1)
      have hcs := cnt_step hlt
      have hat : ∀ x : AV, ((mkCs (l.take j) k).map cpO ++ x :: (l.drop (j + 1)).map cpO)[j]? = some x := by
        intro x
        rw [List.getElem?_append_right (by simp [mkCs_len]; omega)]
        simp [mkCs_len, Nat.min_eq_left hj]
      have hset : ∀ x y : AV, ((mkCs (l.take j) k).map cpO ++ x :: (l.drop (j + 1)).map cpO).set j y = (mkCs (l.take j) k).map cpO ++ y :: (l.drop (j + 1)).map cpO := by
        intro x y
        rw [List.set_append_right _ _ (by simp [mkCs_len]; omega)]
        simp [mkCs_len, Nat.min_eq_left hj]
      rw [List.drop_eq_getElem_cons hlt, List.map_cons]
      repeat (refine Run.go rfl ?_)
      have hlen : ∀ y : AV, j < ((mkCs (l.take j) k).map cpO ++ y :: (l.drop (j + 1)).map cpO).length := by intro y; simp [mkCs_len]; omega
      have hm : 0 + ((j : Int)).toNat = j := by simp
      refine Run.val rfl rfl rfl (ValOk.idxv rfl rfl rfl rfl rfl rfl (by omega) (by omega)) rfl ?_
      rw [hm]
      repeat (refine Run.go rfl ?_)
      refine Run.storee (cpO l[j]) _ rfl rfl rfl rfl rfl rfl rfl (hat _) rfl rfl rfl ?_
      rw [hset]
      repeat (refine Run.go rfl ?_)
      refine Run.val rfl rfl rfl (ValOk.idxv rfl rfl rfl rfl rfl rfl (by omega) (by omega)) rfl ?_
      rw [hm]
      repeat (refine Run.go rfl ?_)
      refine Run.storee _ _ rfl rfl rfl rfl rfl rfl rfl (hat _) rfl rfl rfl ?_
      rw [hset]
      repeat (refine Run.go rfl ?_)
      refine Run.val rfl rfl rfl (ValOk.idxv rfl rfl rfl rfl rfl rfl (by omega) (by omega)) rfl ?_
      rw [hm]
      repeat (refine Run.go rfl ?_)
      refine Run.storee _ _ rfl rfl rfl rfl rfl rfl rfl (hat _) rfl rfl rfl ?_
      rw [hset]
      repeat (refine Run.go rfl ?_)
      refine Run.val rfl rfl rfl (ValOk.idxv rfl rfl rfl rfl rfl rfl (by omega) (by omega)) rfl ?_
      rw [hm]
      repeat (refine Run.go rfl ?_)
      refine Run.storee _ _ rfl rfl rfl rfl rfl rfl rfl (hat _) rfl rfl rfl ?_
      rw [hset]
      repeat (refine Run.go rfl ?_)
      refine Run.val rfl rfl rfl (ValOk.idxv rfl rfl rfl rfl rfl rfl (by omega) (by omega)) rfl ?_
      rw [hm]
      repeat (refine Run.go rfl ?_)
      have hl := hq l[j] (by simp)
      refine Run.uncell (0, 0) (48, 0) (48, 1) j 4 _ rfl (hat _) rfl (fun _ => rfl) rfl (by decide) (by decide) (by decide) rfl fun A n => ?_
      rw [hset]
      refine Run.val rfl rfl rfl (ValOk.loadv _ rfl rfl rfl rfl (hat _) rfl) rfl ?_
      refine Run.name 48 (48, 1) rfl rfl rfl ?_
      repeat (refine Run.go rfl ?_)
      have w1 : IntKind.i64.wrap (k + (cnt (l.take j) : Nat) + 1) = k + (cnt (l.take j) : Nat) + 1 := wrap_i64 (by omega) (by omega)
      have w2 : IntKind.i64.wrap (k + (cnt (l.take j) : Nat) + 1 + 1) = k + (cnt (l.take j) : Nat) + 2 := by rw [wrap_i64 (by omega) (by omega)]; omega
      have w3 : IntKind.i64.wrap (k + (cnt (l.take j) : Nat) + 2 + 1) = k + (cnt (l.take j) : Nat) + 3 := by rw [wrap_i64 (by omega) (by omega)]; omega
      have w4 : IntKind.i64.wrap (k + (cnt (l.take j) : Nat) + 3 + 1) = k + (cnt (l.take j) : Nat) + 4 := by rw [wrap_i64 (by omega) (by omega)]; omega
      rw [w1, w2, w3, w4]
      refine Run.callo (48, 0) none rfl rfl rfl rfl rfl rfl rfl rfl rfl rfl (markInt8S_ct l[j].q (k + (cnt (l.take j) : Nat) + 4) hl (by omega)) rfl (rf8 _) rfl ?_
      repeat (refine Run.go rfl ?_)
      refine Run.recell (0, 0) (48, 0) (48, 1) j 4 _ rfl (hat _) rfl rfl rfl (fun _ => rfl) (by decide) ?_
      rw [hset]
      repeat (refine Run.go rfl ?_)
      refine Run.of (IH (j + 1) (by omega) (by omega)) ⟨rfl, ?_, ?_, trivial⟩ ⟨?_, trivial⟩
      · rw [hcs]
        show i64 (k + (cnt (l.take j) : Nat) + 4 + (l[j].q.length : Nat)) = i64 _
        exact congrArg i64 (by omega)
      · show i64 _ = _
        rw [wrap_i64 (by omega) (by omega)]
        rfl
      · rw [mkCs_step hlt, List.map_append, List.append_assoc]
        rfl
    · have hj' : j = l.length := by simp at h; omega
      subst hj'
      rw [List.take_length, List.drop_length]
      repeat (refine Run.go rfl ?_)
      refine Run.pack 0 rfl rfl (by simp [mkCs_len]) ?_
      refine Run.reto hg rfl rfl rfl ?_ rfl rfl
      show AV.own _ _ _ = _
      simp

def mkD (d : Dk) (k : Int) : Dk := ⟨d.day, mkCs d.cs k⟩

noncomputable def X18 : Fx := ⟨Try.prog, tys, 18, Try.f18, [0]⟩
theorem X18_ok : X18.Ok := ⟨Try.func18, tys_ok⟩
theorem markDesk_ct (d : Dk) (k : Int) (hb : d.cs.length ≤ 1048576) (hq : ∀ c ∈ d.cs, c.q.length ≤ 1048576) (hc : cnt d.cs ≤ 1099511627776) (hk : 0 ≤ k ∧ k + (cnt d.cs : Nat) ≤ 1099511627776) :
    Ct Try.prog 18 [dkO d, i64 k] (i64 (k + (cnt d.cs : Nat))) [dkO (mkD d k)] := by
  refine Ct.intro X18 X18_ok rfl rfl rfl rfl fun g hg => ?_
  refine Run.unagg 0 1 (0, 1) rfl rfl rfl ?_
  repeat (refine Run.go rfl ?_)
  refine Run.callo (0, 1) none rfl rfl rfl rfl rfl rfl rfl rfl rfl rfl (markCopyS_ct d.cs k hb hq hc hk) rfl (rfL_map cpO_rf _) rfl ?_
  repeat (refine Run.go rfl ?_)
  refine Run.packAgg 0 1 rfl rfl rfl (by simp [mkCs_len]) ?_
  exact Run.reto hg rfl rfl rfl rfl rfl rfl
end Go.Proofs.Ytoeocaenflkajaa
