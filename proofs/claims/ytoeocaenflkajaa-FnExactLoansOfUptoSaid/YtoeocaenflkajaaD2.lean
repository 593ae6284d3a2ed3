/- Contracts of the program's functions, and what follows from them. -/
import Derived.Test.YtoeocaenflkajaaD1
set_option linter.unusedVariables false
namespace Go.Proofs.Ytoeocaenflkajaa
open Go Go.Av

def cpZ : AV := .agg [i8 0, i8 0, i16 0, i8 0, .lit (.slice none 0 0)]

noncomputable def X54 : Fx := ⟨Try.prog, tys, 54, Try.f54, [0]⟩
theorem X54_ok : X54.Ok := ⟨Try.func54, tys_ok⟩
theorem toCopyS_ct (l : List Cp) (ex ex' : Bool) (hlen : l.length ≤ 1048576) (hq : ∀ c ∈ l, c.q.length ≤ 1048576) : Ct Try.prog 54 [.ro 5 ex (l.map (cpR ex'))] (.own 5 true (l.map cpO)) [] := by
  refine Ct.intro X54 X54_ok rfl rfl rfl rfl fun g hg => ?_
  repeat (refine Run.go rfl ?_)
  refine Run.make rfl rfl rfl rfl rfl rfl rfl rfl rfl rfl (by simp; omega) (by show _ * 32 ≤ _; simp; omega) rfl ?_
  repeat (refine Run.go rfl ?_)
  refine Run.loop (fun j : Nat => ⟨[(0, .ro 5 ex (l.map (cpR ex'))), (3, .own 5 true ((l.take j).map cpO ++ List.replicate (l.length - j) cpZ)), (4, i64 j)], []⟩) (fun j => j ≤ l.length) (fun j => l.length - j) 0 (by omega) ?_ ?_
  · refine St.Le.mk' ⟨rfl, ?_, rfl, trivial⟩ trivial
    show AV.own 5 true (List.replicate (l.map (cpR ex')).length cpZ) = _
    simp
  · intro j hj IH
    repeat (refine Run.go rfl ?_)
    refine Run.cond rfl (fun h => ?_) (fun h => ?_)
    · have hlt : j < l.length := by simpa using h
      repeat (refine Run.go rfl ?_)
      refine Run.val rfl rfl rfl (ValOk.idx (cpR ex' l[j]) rfl rfl rfl rfl rfl (by omega) (by simp [hlt])) rfl ?_
      repeat (refine Run.go rfl ?_)
      refine Run.cs rfl (toCopy_ct l[j] ex' (hq _ (by simp))) rfl (cpO_rf _) ?_
      refine Run.val rfl rfl rfl (ValOk.idxv rfl rfl rfl rfl rfl rfl (by omega) (by simp; omega)) rfl ?_
      refine Run.openAgg 20 4 (20, 4) (20, 5) rfl rfl rfl (by decide) rfl fun A n => ?_
      refine Run.storee cpZ (.agg [i8 l[j].st, i8 l[j].who, i16 l[j].due, i8 l[j].ren, .lit (.slice A (l[j].q.map i8).length n)]) rfl rfl rfl rfl rfl rfl rfl ?_ rfl rfl rfl ?_
      · simpa using fill_at hlt
      refine Run.recell (3, 0) (20, 4) (20, 5) j 4 (.agg [i8 l[j].st, i8 l[j].who, i16 l[j].due, i8 l[j].ren, .lit (.slice A (l[j].q.map i8).length n)]) rfl ?_ rfl rfl rfl (fun _ => rfl) (by decide) ?_
      · simp only [Nat.zero_add, Int.toNat_natCast]
        exact List.getElem?_set_self (by simp; omega)
      repeat (refine Run.go rfl ?_)
      refine Run.pack 3 rfl rfl (by simp) ?_
      refine Run.of (IH (j + 1) (by omega) (by omega)) ⟨rfl, ?_, ?_, trivial⟩ trivial
      · show AV.own _ _ _ = _
        congr 1
        simp only [Nat.zero_add, Int.toNat_natCast]
        rw [List.set_set]
        exact fill_step (f := cpO) hlt
      · show i64 _ = _
        rw [wrap_i64 (by omega) (by omega)]
        rfl
    · have hj' : j = l.length := by simp at h; omega
      subst hj'
      repeat (refine Run.go rfl ?_)
      refine Run.pack 2 rfl rfl rfl ?_
      refine Run.ret hg rfl ?_
      show AV.own _ _ _ = _
      simp

noncomputable def X22 : Fx := ⟨Try.prog, tys, 22, Try.f22, [0]⟩
theorem X22_ok : X22.Ok := ⟨Try.func22, tys_ok⟩
theorem toDesk_ct (d : Dk) (ex ex' : Bool) (hlen : d.cs.length ≤ 1048576) (hq : ∀ c ∈ d.cs, c.q.length ≤ 1048576) : Ct Try.prog 22 [dkR ex ex' d] (dkO d) [] := by
  refine Ct.intro X22 X22_ok rfl rfl rfl rfl fun g hg => ?_
  repeat (refine Run.go rfl ?_)
  refine Run.cs rfl (toCopyS_ct d.cs ex ex' hlen hq) rfl (rf_own cpO_rf _) ?_
  refine Run.unpack 9 rfl rfl ?_
  repeat (refine Run.go rfl ?_)
  refine Run.packBox (2, 0) 1 rfl rfl rfl rfl ?_
  exact Run.ret (r := dkO d) hg (by kernel_rfl) rfl

def szQ (l : List Int) (n : Int) : Int := if n - l.length < 0 then -1 else n - l.length
def szCs : List Cp → Int → Int
  | [], n => n
  | c :: cs, n => if szQ c.q n < 0 then -1 else szCs cs (szQ c.q n)
def szD (d : Dk) (n : Int) : Int := if n - d.cs.length < 0 then -1 else szCs d.cs (n - d.cs.length)

theorem szQ_le {l : List Int} {n : Int} (h : 0 ≤ n) : szQ l n ≤ n ∧ -1 ≤ szQ l n := by
  unfold szQ; split <;> omega
theorem szQ_neg {l : List Int} {n : Int} (h : 0 ≤ n) (h' : szQ l n < 0) : szQ l n = -1 := by
  unfold szQ at *; split <;> simp_all

theorem szCs_neg {l : List Cp} {n : Int} (h : 0 ≤ n) (h' : szCs l n < 0) : szCs l n = -1 := by
  induction l generalizing n with
  | nil => simp [szCs] at h'; omega
  | cons c l ih =>
    rw [szCs] at *
    split
    · rfl
    · rw [if_neg (by assumption)] at h'
      exact ih (by omega) h'
theorem szD_neg {d : Dk} {n : Int} (h : 0 ≤ n) (h' : szD d n < 0) : szD d n = -1 := by
  unfold szD at *
  split
  · rfl
  · rw [if_neg (by assumption)] at h'
    exact szCs_neg (by omega) h'

noncomputable def X106 : Fx := ⟨Try.prog, tys, 106, Try.f106, [0]⟩
theorem X106_ok : X106.Ok := ⟨Try.func106, tys_ok⟩
theorem szInt8S_ct (l : List Int) (ex : Bool) (n : Int) (h0 : 0 ≤ n) (h1 : n ≤ 1048576) (hlen : l.length ≤ 1048576) :
    Ct Try.prog 106 [.ro 1 ex (l.map i8), i64 n] (i64 (szQ l n)) [] := by
  refine Ct.intro X106 X106_ok rfl rfl rfl rfl fun g hg => ?_
  repeat (refine Run.go rfl ?_)
  have e : IntKind.i64.wrap (n - (l.map i8).length) = n - l.length := by rw [List.length_map, wrap_i64 (by omega) (by omega)]
  refine Run.cond rfl (fun h => ?_) (fun h => ?_)
  · repeat (refine Run.go rfl ?_)
    refine Run.ret hg rfl ?_
    show i64 _ = _
    rw [e] at h
    simp at h
    rw [szQ, if_pos (by omega)]
  · repeat (refine Run.go rfl ?_)
    refine Run.ret hg rfl ?_
    show i64 (IntKind.i64.wrap (n - (l.map i8).length)) = _
    rw [e] at h ⊢
    simp at h
    rw [szQ, if_neg (by omega)]

noncomputable def X90 : Fx := ⟨Try.prog, tys, 90, Try.f90, [0]⟩
theorem X90_ok : X90.Ok := ⟨Try.func90, tys_ok⟩
theorem szCopy_ct (c : Cp) (ex : Bool) (n : Int) (h0 : 0 ≤ n) (h1 : n ≤ 1048576) (hlen : c.q.length ≤ 1048576) : Ct Try.prog 90 [cpR ex c, i64 n] (i64 (szQ c.q n)) [] := by
  refine Ct.intro X90 X90_ok rfl rfl rfl rfl fun g hg => ?_
  repeat (refine Run.go rfl ?_)
  refine Run.cs rfl (szInt8S_ct c.q ex n h0 h1 hlen) rfl rfl ?_
  repeat (refine Run.go rfl ?_)
  refine Run.cond rfl (fun h => ?_) (fun h => ?_)
  · repeat (refine Run.go rfl ?_)
    refine Run.ret hg rfl ?_
    show i64 _ = _
    simp at h
    rw [szQ_neg h0 h]
  · repeat (refine Run.go rfl ?_)
    exact Run.ret hg rfl rfl

noncomputable def X53 : Fx := ⟨Try.prog, tys, 53, Try.f53, [0]⟩
theorem X53_ok : X53.Ok := ⟨Try.func53, tys_ok⟩
theorem szCopyS_ct (l : List Cp) (ex ex' : Bool) (n : Int) (h0 : 0 ≤ n) (h1 : n ≤ 1048576) (hlen : l.length ≤ 1048576) (hq : ∀ c ∈ l, c.q.length ≤ 1048576) :
    Ct Try.prog 53 [.ro 5 ex (l.map (cpR ex')), i64 n] (i64 (if n - l.length < 0 then -1 else szCs l (n - l.length))) [] := by
  refine Ct.intro X53 X53_ok rfl rfl rfl rfl fun g hg => ?_
  repeat (refine Run.go rfl ?_)
  have e : IntKind.i64.wrap (n - (l.map (cpR ex')).length) = n - l.length := by rw [List.length_map, wrap_i64 (by omega) (by omega)]
  refine Run.cond rfl (fun h => ?_) (fun h => ?_)
  · repeat (refine Run.go rfl ?_)
    refine Run.ret hg rfl ?_
    show i64 _ = _
    rw [e] at h
    simp at h
    rw [if_pos (by omega)]
  · rw [e] at h
    have h : 0 ≤ n - l.length := by simp at h; omega
    repeat (refine Run.go rfl ?_)
    refine Run.loop (fun i : Nat × Int => ⟨[(0, .ro 5 ex (l.map (cpR ex'))), (1, i64 i.2), (5, i64 i.1)], []⟩) (fun i => i.1 ≤ l.length ∧ 0 ≤ i.2 ∧ i.2 ≤ 1048576 ∧ szCs (l.drop i.1) i.2 = szCs l (n - l.length)) (fun i => l.length - i.1) (0, n - l.length) ⟨by simp, h, by simp; omega, by simp⟩ ?_ ?_
    · refine St.Le.mk' ⟨rfl, ?_, rfl, trivial⟩ trivial
      show i64 (IntKind.i64.wrap (n - (l.map (cpR ex')).length)) = i64 _
      rw [e]
    · rintro ⟨j, m⟩ ⟨hj, hm0, hm1, hjm⟩ IH
      simp only at hj hm0 hm1 hjm
      repeat (refine Run.go rfl ?_)
      refine Run.cond rfl (fun h' => ?_) (fun h' => ?_)
      · have hlt : j < l.length := by simpa using h'
        repeat (refine Run.go rfl ?_)
        refine Run.val rfl rfl rfl (ValOk.idx (cpR ex' l[j]) rfl rfl rfl rfl rfl (by omega) (by simp [hlt])) rfl ?_
        repeat (refine Run.go rfl ?_)
        refine Run.cs rfl (szCopy_ct l[j] ex' m hm0 hm1 (hq _ (by simp))) rfl rfl ?_
        repeat (refine Run.go rfl ?_)
        rw [List.drop_eq_getElem_cons hlt, szCs] at hjm
        have := szQ_le (l := l[j].q) hm0
        refine Run.cond rfl (fun h2 => ?_) (fun h2 => ?_)
        · repeat (refine Run.go rfl ?_)
          refine Run.ret hg rfl ?_
          show i64 _ = _
          simp at h2
          rw [if_pos h2] at hjm
          rw [if_neg (by omega), ← hjm]
        · repeat (refine Run.go rfl ?_)
          simp at h2
          rw [if_neg (by omega)] at hjm
          refine Run.of (IH (j + 1, szQ l[j].q m) ⟨by simp; omega, by simp; omega, by simp; omega, hjm⟩ (by simp; omega)) ⟨rfl, rfl, ?_, trivial⟩ trivial
          show i64 _ = _
          rw [wrap_i64 (by omega) (by omega)]
          rfl
      · have hj' : j = l.length := by simp at h'; omega
        subst hj'
        repeat (refine Run.go rfl ?_)
        refine Run.ret hg rfl ?_
        show i64 m = _
        rw [List.drop_length] at hjm
        rw [if_neg (by omega), ← hjm]
        rfl

noncomputable def X20 : Fx := ⟨Try.prog, tys, 20, Try.f20, [0]⟩
theorem X20_ok : X20.Ok := ⟨Try.func20, tys_ok⟩
theorem szDesk_ct (d : Dk) (ex ex' : Bool) (n : Int) (h0 : 0 ≤ n) (h1 : n ≤ 1048576) (hlen : d.cs.length ≤ 1048576) (hq : ∀ c ∈ d.cs, c.q.length ≤ 1048576) :
    Ct Try.prog 20 [dkR ex ex' d, i64 n] (i64 (szD d n)) [] := by
  refine Ct.intro X20 X20_ok rfl rfl rfl rfl fun g hg => ?_
  repeat (refine Run.go rfl ?_)
  refine Run.cs rfl (szCopyS_ct d.cs ex ex' n h0 h1 hlen hq) rfl rfl ?_
  repeat (refine Run.go rfl ?_)
  refine Run.cond rfl (fun h => ?_) (fun h => ?_)
  · repeat (refine Run.go rfl ?_)
    refine Run.ret hg rfl ?_
    show i64 _ = _
    have h : szD d n < 0 := of_decide_eq_true h
    rw [szD_neg h0 h]
  · repeat (refine Run.go rfl ?_)
    exact Run.ret hg rfl rfl
end Go.Proofs.Ytoeocaenflkajaa
