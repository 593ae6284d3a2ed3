/- Contracts of the program's functions, and what follows from them. -/
import Derived.Test.YtilaphojceabkaaDoorE4
import Derived.Test.YtilaphojceabkaaDoorMD
set_option linter.unusedVariables false
set_option maxRecDepth 100000
set_option linter.unusedSimpArgs false
namespace Go.Proofs.YtilaphojceabkaaDoor
open Go Go.Av

/-! Lists of acts, as texts. -/

noncomputable def X35 : Fx := ⟨Tryd.prog, tys, 35, Tryd.f35, [0, 1]⟩
theorem X35_ok : X35.Ok := ⟨Tryd.func35, tys_ok⟩
theorem eqAct_ct (x y : Ac) : Ct Tryd.prog 35 [acA x, acA y] (bo (decide (x = y))) [] := by
  obtain ⟨a1, a2, a3⟩ := x
  obtain ⟨b1, b2, b3⟩ := y
  refine Ct.intro X35 X35_ok rfl rfl rfl rfl fun g hg => ?_
  repeat (refine Run.go rfl ?_)
  refine Run.cond rfl (fun h => ?_) (fun h1 => ?_)
  · repeat (refine Run.go rfl ?_)
    refine Run.ret hg rfl ?_
    show bo _ = _
    simp at h
    simp [h]
  repeat (refine Run.go rfl ?_)
  refine Run.cond rfl (fun h => ?_) (fun h2 => ?_)
  · repeat (refine Run.go rfl ?_)
    refine Run.ret hg rfl ?_
    show bo _ = _
    simp at h
    simp [h]
  repeat (refine Run.go rfl ?_)
  refine Run.cond rfl (fun h => ?_) (fun h3 => ?_)
  · repeat (refine Run.go rfl ?_)
    refine Run.ret hg rfl ?_
    show bo _ = _
    simp at h
    simp [h]
  repeat (refine Run.go rfl ?_)
  refine Run.ret hg rfl ?_
  show bo _ = _
  simp at h1 h2 h3
  simp [h1, h2, h3]

def szA (l : List Ac) (n : Int) : Int := if n - l.length < 0 then -1 else n - l.length

noncomputable def X18 : Fx := ⟨Tryd.prog, tys, 18, Tryd.f18, [0]⟩
theorem X18_ok : X18.Ok := ⟨Tryd.func18, tys_ok⟩
theorem toActS_ct (l : List Ac) (ex : Bool) (hlen : l.length ≤ 1048576) : Ct Tryd.prog 18 [.ro 3 ex (l.map acA)] (.own 3 true (l.map acA)) [] := by
  refine Ct.intro X18 X18_ok rfl rfl rfl rfl fun g hg => ?_
  repeat (refine Run.go rfl ?_)
  refine Run.make rfl rfl rfl rfl rfl rfl rfl rfl rfl rfl (by simp; omega) (by show _ * 3 ≤ _; simp; omega) rfl ?_
  repeat (refine Run.go rfl ?_)
  refine Run.loop (fun j : Nat => ⟨[(0, .ro 3 ex (l.map acA)), (3, .own 3 true ((l.take j).map acA ++ List.replicate (l.length - j) (acA ac0))), (4, i64 j)], []⟩) (fun j => j ≤ l.length) (fun j => l.length - j) 0 (by omega) ?_ ?_
  · refine St.Le.mk' ⟨rfl, ?_, rfl, trivial⟩ trivial
    show AV.own 3 true (List.replicate (l.map acA).length (acA ac0)) = _
    simp
  · intro j hj IH
    repeat (refine Run.go rfl ?_)
    refine Run.cond rfl (fun h => ?_) (fun h => ?_)
    · have hlt : j < l.length := by simpa using h
      repeat (refine Run.go rfl ?_)
      refine Run.val rfl rfl rfl (ValOk.idx (acA l[j]) rfl rfl rfl rfl rfl (by omega) (by simp [hlt])) rfl ?_
      repeat (refine Run.go rfl ?_)
      refine Run.cs rfl (toAct_ct l[j]) rfl rfl ?_
      refine Run.val rfl rfl rfl (ValOk.idxv rfl rfl rfl rfl rfl rfl (by omega) (by simp; omega)) rfl ?_
      refine Run.storee (acA ac0) (acA l[j]) rfl rfl rfl rfl rfl rfl rfl ?_ rfl rfl rfl ?_
      · simpa using fill_at hlt
      repeat (refine Run.go rfl ?_)
      refine Run.pack 3 rfl rfl (by simp) ?_
      refine Run.of (IH (j + 1) (by omega) (by omega)) ⟨rfl, ?_, ?_, trivial⟩ trivial
      · show AV.own _ _ _ = _
        congr 1
        simp only [Nat.zero_add, Int.toNat_natCast]
        exact fill_step (f := acA) hlt
      · show i64 _ = _
        rw [wrap_i64 (by omega) (by omega)]
        rfl
    · have hj' : j = l.length := by simp at h; omega
      subst hj'
      repeat (refine Run.go rfl ?_)
      refine Run.pack 2 rfl rfl rfl ?_
      refine Run.ret hg rfl ?_
      show AV.own _ _ _ = _
      simp

noncomputable def X16 : Fx := ⟨Tryd.prog, tys, 16, Tryd.f16, [0]⟩
theorem X16_ok : X16.Ok := ⟨Tryd.func16, tys_ok⟩
theorem szActS_ct (l : List Ac) (ex : Bool) (n : Int) (h0 : 0 ≤ n) (h1 : n ≤ 1048576) (hlen : l.length ≤ 1048576) : Ct Tryd.prog 16 [.ro 3 ex (l.map acA), i64 n] (i64 (szA l n)) [] := by
  have ew : IntKind.i64.wrap (n - (l.map acA).length) = n - l.length := by rw [List.length_map, wrap_i64 (by omega) (by omega)]
  refine Ct.intro X16 X16_ok rfl rfl rfl rfl fun g hg => ?_
  repeat (refine Run.go rfl ?_)
  rw [ew]
  refine Run.cond rfl (fun h => ?_) (fun h => ?_)
  · repeat (refine Run.go rfl ?_)
    refine Run.ret hg rfl ?_
    have h : n - l.length < 0 := by simpa using h
    rw [szA, if_pos h]
    rfl
  · repeat (refine Run.go rfl ?_)
    refine Run.ret hg rfl ?_
    have h : ¬ n - l.length < 0 := by simpa using h
    rw [szA, if_neg h]
    rfl

noncomputable def X20 : Fx := ⟨Tryd.prog, tys, 20, Tryd.f20, [0, 1]⟩
theorem X20_ok : X20.Ok := ⟨Tryd.func20, tys_ok⟩
theorem eqActS_ct (l m : List Ac) (ex ex' : Bool) (hb : l.length ≤ 1048576) : Ct Tryd.prog 20 [.ro 3 ex (l.map acA), .ro 3 ex' (m.map acA)] (bo (decide (l = m))) [] := by
  refine Ct.intro X20 X20_ok rfl rfl rfl rfl fun g hg => ?_
  repeat (refine Run.go rfl ?_)
  refine Run.cond rfl (fun h => ?_) (fun h => ?_)
  · repeat (refine Run.go rfl ?_)
    refine Run.ret hg rfl ?_
    show bo _ = _
    congr 2
    simp at h
    symm
    simp
    rintro rfl
    exact h rfl
  · have hlen : l.length = m.length := by simp at h; omega
    repeat (refine Run.go rfl ?_)
    refine Run.loop (fun j : Nat => ⟨[(0, .ro 3 ex (l.map acA)), (1, .ro 3 ex' (m.map acA)), (5, i64 j)], []⟩) (fun j => j ≤ l.length ∧ l.take j = m.take j) (fun j => l.length - j) 0 ⟨by omega, rfl⟩ ?_ ?_
    · exact St.Le.mk' ⟨rfl, rfl, rfl, trivial⟩ trivial
    · rintro j ⟨hj, hjm⟩ IH
      repeat (refine Run.go rfl ?_)
      refine Run.cond rfl (fun h => ?_) (fun h => ?_)
      · have hlt : j < l.length := by simpa using h
        have hlt' : j < m.length := by omega
        repeat (refine Run.go rfl ?_)
        refine Run.draw (by kernel_rfl) (by decide +kernel) ?_
        repeat (refine Quiet.go rfl ?_)
        refine Quiet.val rfl rfl (ValOk.idx (acA l[j]) rfl rfl rfl rfl rfl (by omega) (by simp [hlt])) rfl ?_
        repeat (refine Quiet.go rfl ?_)
        refine Quiet.val rfl rfl (ValOk.idx (acA m[j]) rfl rfl rfl rfl rfl (by omega) (by simp [hlt'])) rfl ?_
        repeat (refine Quiet.go rfl ?_)
        refine Quiet.cs rfl rfl rfl rfl rfl (eqAct_ct l[j] m[j]) rfl rfl ?_
        repeat (refine Quiet.go rfl ?_)
        refine Quiet.nil ?_
        repeat (refine Run.go rfl ?_)
        refine Run.cond rfl (fun h => ?_) (fun h => ?_)
        · repeat (refine Run.go rfl ?_)
          refine Run.ret hg rfl ?_
          show bo _ = _
          congr 2
          symm
          simp at h ⊢
          rintro rfl
          exact h rfl
        · repeat (refine Run.go rfl ?_)
          refine Run.of (IH (j + 1) ⟨by omega, ?_⟩ (by omega)) ⟨rfl, rfl, ?_, trivial⟩ trivial
          · rw [List.take_succ_eq_append_getElem hlt, List.take_succ_eq_append_getElem hlt', hjm]
            simp at h
            rw [h]
          · show i64 _ = _
            rw [wrap_i64 (by omega) (by omega)]
            rfl
      · have hj' : j = l.length := by simp at h; omega
        repeat (refine Run.go rfl ?_)
        refine Run.ret hg rfl ?_
        show bo _ = _
        rw [List.take_of_length_le (by omega), List.take_of_length_le (by omega)] at hjm
        simp [hjm]

noncomputable def X128 : Fx := ⟨Tryd.prog, tys, 128, Tryd.f128, [0, 1]⟩
theorem X128_ok : X128.Ok := ⟨Tryd.func128, tys_ok⟩
theorem indexA_ct (l : List Ac) (ex : Bool) (f : Nat) (caps : List AV) (p : Ac → Bool) (hlen : l.length ≤ 1048576) (hc : AV.freeL caps = true)
    (hf : ∀ x ∈ l, Ct Tryd.prog f ([acA x] ++ caps) (bo (p x)) []) : Ct Tryd.prog 128 [.ro 3 ex (l.map acA), .fn f caps] (i64 (fi p l)) [] := by
  refine Ct.intro X128 X128_ok rfl (by kernel_rfl) rfl rfl fun g hg => ?_
  repeat (refine Run.step rfl ?_)
  refine Run.loop (fun j : Nat => ⟨[(0, .ro 3 ex (l.map acA)), (1, .fn f caps), (7, i64 l.length), (8, i64 j)], []⟩) (fun j => j ≤ l.length ∧ j ≤ l.findIdx p) (fun j => l.length - j) 0 ⟨by omega, by omega⟩ ?_ ?_
  · refine St.Le.mk' ⟨rfl, rfl, ?_, rfl, trivial⟩ trivial
    show i64 _ = _
    simp
  · rintro j ⟨hj1, hj2⟩ IH
    repeat (refine Run.step rfl ?_)
    refine Run.cond rfl (fun h => ?_) (fun h => ?_)
    · have hlt : j < l.length := by simpa using h
      repeat (refine Run.step rfl ?_)
      refine Run.val rfl rfl rfl (ValOk.idx (acA l[j]) rfl rfl rfl rfl rfl (by omega) (by simp [hlt])) rfl ?_
      repeat (refine Run.step rfl ?_)
      refine Run.callp rfl rfl rfl rfl rfl rfl rfl hc rfl (hf l[j] (by simp)) (by decide) (by decide) ?_
      repeat (refine Run.step rfl ?_)
      refine Run.cond rfl (fun h => ?_) (fun h => ?_)
      · repeat (refine Run.step rfl ?_)
        refine Run.ret hg rfl ?_
        show i64 _ = _
        rw [fi_at hlt h hj2]
      · repeat (refine Run.step rfl ?_)
        refine Run.of (IH (j + 1) ⟨by omega, fi_next hlt h hj2⟩ (by omega)) ⟨rfl, rfl, rfl, ?_, trivial⟩ trivial
        show i64 _ = _
        rw [wrap_i64 (by omega) (by omega)]
        rfl
    · repeat (refine Run.step rfl ?_)
      have hj : j = l.length := by simp at h; omega
      refine Run.ret hg rfl ?_
      show i64 (-1) = _
      rw [fi_none (by omega)]

noncomputable def X85 : Fx := ⟨Tryd.prog, tys, 85, Tryd.f85, [0, 1]⟩
theorem X85_ok : X85.Ok := ⟨Tryd.func85, tys_ok⟩
theorem containsA_ct (l : List Ac) (ex : Bool) (f : Nat) (caps : List AV) (p : Ac → Bool) (hlen : l.length ≤ 1048576) (hc : AV.freeL caps = true)
    (hf : ∀ x ∈ l, Ct Tryd.prog f ([acA x] ++ caps) (bo (p x)) []) : Ct Tryd.prog 85 [.ro 3 ex (l.map acA), .fn f caps] (bo (l.any p)) [] := by
  refine Ct.intro X85 X85_ok rfl (by kernel_rfl) rfl rfl fun g hg => ?_
  repeat (refine Run.go rfl ?_)
  refine Run.callp rfl rfl rfl rfl rfl rfl (by simp [AV.freeL, AV.free, hc]) rfl rfl (indexA_ct l ex f caps p hlen hc hf) (by decide) (by decide) ?_
  repeat (refine Run.go rfl ?_)
  refine Run.ret hg rfl ?_
  show bo _ = _
  rw [← fi_nonneg]

noncomputable def X86 : Fx := ⟨Tryd.prog, tys, 86, Tryd.f86, [0, 1]⟩
theorem X86_ok : X86.Ok := ⟨Tryd.func86, tys_ok⟩
theorem areAllA10_ct (c : Ac) (f : Nat) (p : Bool) (hf : Ct Tryd.prog f [acA c] (bo p) []) : Ct Tryd.prog 86 [acA c, .rp [.fn f []] 0] (bo (!p)) [] := by
  refine Ct.intro X86 X86_ok rfl (by kernel_rfl) rfl rfl fun g hg => ?_
  repeat (refine Run.go rfl ?_)
  refine Run.cs rfl hf rfl rfl ?_
  repeat (refine Run.go rfl ?_)
  exact Run.ret hg rfl rfl

noncomputable def X52 : Fx := ⟨Tryd.prog, tys, 52, Tryd.f52, [0, 1]⟩
theorem X52_ok : X52.Ok := ⟨Tryd.func52, tys_ok⟩
theorem areAllA0_ct (l : List Ac) (ex : Bool) (f : Nat) (p : Ac → Bool) (hlen : l.length ≤ 1048576) (hf : ∀ x ∈ l, Ct Tryd.prog f [acA x] (bo (p x)) []) :
    Ct Tryd.prog 52 [.ro 3 ex (l.map acA), .fn f []] (bo (l.all p)) [] := by
  refine Ct.intro X52 X52_ok rfl (by kernel_rfl) rfl rfl fun g hg => ?_
  repeat (refine Run.go rfl ?_)
  refine Run.cs rfl (containsA_ct l ex 86 [.rp [.fn f []] 0] (fun x => !p x) hlen rfl (fun x hx => areAllA10_ct x f (p x) (hf x hx))) rfl rfl ?_
  repeat (refine Run.go rfl ?_)
  refine Run.ret hg rfl ?_
  show bo (!l.any fun x => !p x) = _
  congr 2
  simp [List.all_eq_not_any_not]

/-- Lines. -/
def lns {α : Type} (tx : α → List UInt8) (l : List α) : List UInt8 := l.flatMap fun x => tx x ++ [10]
theorem lns_step {α : Type} {tx : α → List UInt8} {l : List α} {j : Nat} (h : j < l.length) : lns tx (l.take (j + 1)) = lns tx (l.take j) ++ (tx l[j] ++ [10]) := by
  unfold lns
  rw [List.take_succ_eq_append_getElem h, List.flatMap_append]
  simp only [List.flatMap_cons, List.flatMap_nil, List.append_nil]
theorem lns_len {α : Type} {tx : α → List UInt8} {l : List α} {n : Nat} (h : ∀ x ∈ l, (tx x).length ≤ n) : (lns tx l).length ≤ l.length * (n + 1) := by
  induction l with
  | nil => simp [lns]
  | cons x l ih =>
    have h1 := h x (by simp)
    have h2 := ih fun y hy => h y (by simp [hy])
    simp only [lns, List.flatMap_cons, List.length_append, List.length_cons, List.length_nil, Nat.succ_mul] at h2 ⊢
    omega

noncomputable def X53 : Fx := ⟨Tryd.prog, tys, 53, Tryd.f53, [0, 1]⟩
theorem X53_ok : X53.Ok := ⟨Tryd.func53, tys_ok⟩
theorem linesA_ct (l : List Ac) (ex : Bool) (f : Nat) (tx : Ac → List UInt8) (hlen : l.length ≤ 1048576) (ht : ∀ x ∈ l, (tx x).length ≤ 1000) (hf : ∀ x ∈ l, Ct Tryd.prog f [acA x] (str (tx x)) []) :
    Ct Tryd.prog 53 [.ro 3 ex (l.map acA), .fn f []] (str (lns tx l)) [] := by
  refine Ct.intro0 X53 X53_ok rfl (by kernel_rfl) rfl rfl rfl fun g hF0 hg => ?_
  iterate 6 (refine Run.go rfl ?_)
  refine Run.allocM rfl rfl rfl rfl rfl rfl rfl fun b => ?_
  repeat (refine Run.go rfl ?_)
  refine Run.loop (fun jm : Nat × List (Nat × Obj) => ⟨[(0, .ro 3 ex (l.map acA)), (1, .fn f []), (5, .lit (.pointer (some ⟨b, 0, none⟩))), (8, .ro 3 ex (l.map acA)), (9, i64 (l.map acA).length), (10, i64 jm.1)], [((5, 0), .mem jm.2)]⟩)
    (fun jm => jm.1 ≤ l.length ∧ IsB 104 5 b (lns tx (l.take jm.1)) jm.2) (fun jm => l.length - jm.1) (0, [(b, .cells #[.pointer none, .slice none 0 0] 104 (0, 0))])
    ⟨by omega, ⟨_, _, [], .inl rfl, .inl ⟨rfl, rfl, rfl⟩, by simp, rfl⟩⟩ ?_ ?_
  · exact St.Le.mk' ⟨rfl, rfl, rfl, rfl, rfl, rfl, trivial⟩ ⟨rfl, trivial⟩
  · rintro ⟨j, ms⟩ ⟨hj, hB⟩ IH
    simp only at hj hB IH
    repeat (refine Run.go rfl ?_)
    refine Run.cond rfl (fun h => ?_) (fun h => ?_)
    · have hlt : j < l.length := by simpa using h
      have hx : l[j] ∈ l := List.getElem_mem hlt
      have hxl := ht _ hx
      have hll := lns_len (l := l.take j) (tx := tx) (n := 1000) fun x hx => ht x (List.mem_of_mem_take hx)
      rw [List.length_take] at hll
      repeat (refine Run.go rfl ?_)
      refine Run.val rfl rfl rfl (ValOk.idx (acA l[j]) rfl rfl rfl rfl rfl (by omega) (by simp [hlt])) rfl ?_
      repeat (refine Run.go rfl ?_)
      refine Run.cs rfl (hf _ hx) rfl rfl ?_
      refine Run.val rfl rfl rfl (ValOk.scat (tx l[j]) [10] rfl rfl rfl (by simp only [List.length_cons, List.length_nil]; omega)) rfl ?_
      have hmin : Nat.min j l.length * 1001 ≤ 1048576 * 1001 := Nat.mul_le_mul_right _ (by simp only [Nat.min_def]; split <;> omega)
      have hws : ∀ w, held w ms → Calls Tryd.prog 87 #[.pointer (some ⟨b, 0, none⟩), .string ⟨(tx l[j] ++ [10]).toArray⟩] w fun e w' => ∃ ms', IsB 104 5 b (lns tx (l.take j) ++ (tx l[j] ++ [10])) ms' ∧
          e = .returned (.tuple #[.int .i64 (tx l[j] ++ [10]).length, .nilIface]) ∧ held w' ms' ∧ Kp (ms.map Prod.fst) w w' ∧ (ms'.map Prod.fst).Nodup ∧ ∀ x ∈ ms'.map Prod.fst, x ∈ ms.map Prod.fst ∨ w.heap.size ≤ x :=
        fun w hm => writeString_raw b (lns tx (l.take j)) (tx l[j] ++ [10]) ms w hB hm (by simp only [List.length_append, List.length_cons, List.length_nil]; omega)
      generalize hs10 : tx l[j] ++ [10] = s10 at hws
      refine Run.callM (5, 0) (fun ms' => IsB 104 5 b (lns tx (l.take j) ++ s10) ms') (fun _ => .tuple #[.int .i64 s10.length, .nilIface]) (fun ms' => ms') (vs := [.pointer (some ⟨b, 0, none⟩), .string ⟨s10.toArray⟩])
        rfl rfl rfl rfl rfl rfl rfl (by kernel_rfl) hws rfl fun ms' hB' => ?_
      subst hs10
      repeat (refine Run.go rfl ?_)
      refine Run.of (IH (j + 1, ms') ⟨by simp only; omega, by simp only; rw [lns_step hlt]; exact hB'⟩ (by simp only; omega)) ⟨rfl, rfl, rfl, rfl, rfl, ?_, trivial⟩ ⟨rfl, trivial⟩
      show i64 _ = i64 _
      rw [wrap_i64 (by omega) (by omega)]
      rfl
    · have hj' : j = l.length := by simp at h; omega
      subst hj'
      rw [List.take_length] at hB
      repeat (refine Run.go rfl ?_)
      refine Run.callL (5, 0) hF0 (vs := [.pointer (some ⟨b, 0, none⟩)]) (v := .string ⟨(lns tx l).toArray⟩) rfl rfl rfl rfl rfl rfl rfl (by kernel_rfl)
        (fun w B hBw hBm hm => string_raw b (lns tx l) ms w B hB hm hBw hBm) rfl ?_
      repeat (refine Run.go rfl ?_)
      exact Run.ret hg rfl rfl

noncomputable def X51 : Fx := ⟨Tryd.prog, tys, 51, Tryd.f51, [0]⟩
theorem X51_ok : X51.Ok := ⟨Tryd.func51, tys_ok⟩
theorem l06ListText_ct (l : List Ac) (ex : Bool) (hlen : l.length ≤ 200) (hr : ∀ a ∈ l, acRng a) (ha : ∀ a ∈ l, aOk a = true) (ht : ∀ x ∈ l, (aText x).length ≤ 1000) :
    Ct Tryd.prog 51 [.ro 3 ex (l.map acA)] (str (lns aText l)) [] := by
  refine Ct.intro X51 X51_ok rfl (by kernel_rfl) rfl rfl fun g hg => ?_
  repeat (refine Run.go rfl ?_)
  refine Run.loop (fun j : Nat => ⟨[(0, .ro 3 ex (l.map acA)), (3, str (lns aText (l.take j))), (4, i64 j)], []⟩) (fun j => j ≤ l.length) (fun j => l.length - j) 0 (by omega) ?_ ?_
  · exact St.Le.mk' ⟨rfl, rfl, rfl, trivial⟩ trivial
  · intro j hj IH
    repeat (refine Run.go rfl ?_)
    refine Run.cond rfl (fun h => ?_) (fun h => ?_)
    · have hlt : j < l.length := by simpa using h
      have hx : l[j] ∈ l := List.getElem_mem hlt
      have hxl := ht _ hx
      have hll := lns_len (l := l.take j) (tx := aText) (n := 1000) fun x hx => ht x (List.mem_of_mem_take hx)
      rw [List.length_take] at hll
      have hmin : Nat.min j l.length * 1001 ≤ 1048576 * 1001 := Nat.mul_le_mul_right _ (by simp only [Nat.min_def]; split <;> omega)
      repeat (refine Run.go rfl ?_)
      refine Run.val rfl rfl rfl (ValOk.idx (acA l[j]) rfl rfl rfl rfl rfl (by omega) (by simp [hlt])) rfl ?_
      repeat (refine Run.go rfl ?_)
      refine Run.cs rfl (l06Text_ct _ (hr _ hx) (ha _ hx)) rfl rfl ?_
      refine Run.val rfl rfl rfl (ValOk.scat (aText l[j]) [10] rfl rfl rfl (by simp only [List.length_cons, List.length_nil]; omega)) rfl ?_
      refine Run.val rfl rfl rfl (ValOk.scat (lns aText (l.take j)) (aText l[j] ++ [10]) rfl rfl rfl (by simp only [List.length_append, List.length_cons, List.length_nil]; omega)) rfl ?_
      repeat (refine Run.go rfl ?_)
      refine Run.of (IH (j + 1) (by omega) (by omega)) ⟨rfl, ?_, ?_, trivial⟩ trivial
      · rw [lns_step hlt]; rfl
      · show i64 _ = i64 _
        rw [wrap_i64 (by omega) (by omega)]
        rfl
    · have hj' : j = l.length := by simp at h; omega
      subst hj'
      rw [List.take_length]
      repeat (refine Run.go rfl ?_)
      exact Run.ret hg rfl rfl

theorem aText_len {a : Ac} (hr : acRng a) (h : aOk a = true) : (aText a).length ≤ 1000 := by
  have hw := aOk_what h
  obtain ⟨w, p, b⟩ := a
  simp only at hw
  have hwl : (wordsL.getD w.toNat []).length ≤ 6 := by
    have hb : w.toNat = 0 ∨ w.toNat = 1 ∨ w.toNat = 2 ∨ w.toNat = 3 ∨ w.toNat = 4 ∨ w.toNat = 5 := by omega
    rcases hb with h | h | h | h | h | h <;> rw [h] <;> decide
  unfold aText
  simp only
  split
  · omega
  · rename_i h5
    obtain ⟨hp, hb⟩ := aOk_num h h5
    simp only at hp hb
    have lp := dl_len p.toNat (by omega)
    have lb := dl_len b.toNat (by omega)
    simp only [List.length_append, List.length_cons, List.length_nil]
    omega

def asRes (l : List Ac) : List UInt8 := if l.length ≤ 200 ∧ l.all aOk = true then lns aText l else []

noncomputable def X17 : Fx := ⟨Tryd.prog, tys, 17, Tryd.f17, [0]⟩
theorem X17_ok : X17.Ok := ⟨Tryd.func17, tys_ok⟩
theorem specActsText_ct (l : List Ac) (ex : Bool) (hlen : l.length ≤ 1048576) (hr : ∀ a ∈ l, acRng a) : Ct Tryd.prog 17 [.ro 3 ex (l.map acA)] (str (asRes l)) [] := by
  refine Ct.intro X17 X17_ok rfl (by kernel_rfl) rfl rfl fun g hg => ?_
  repeat (refine Run.go rfl ?_)
  refine Run.loop (fun j : Nat => ⟨[(0, .ro 3 ex (l.map acA)), (3, i64 j)], []⟩) (fun j => j ≤ l.length ∧ (l.take j).all aOk = true) (fun j => l.length - j) 0 ⟨by omega, rfl⟩ ?_ ?_
  · exact St.Le.mk' ⟨rfl, rfl, trivial⟩ trivial
  · rintro j ⟨hj, hall⟩ IH
    repeat (refine Run.go rfl ?_)
    refine Run.cond rfl (fun h => ?_) (fun h => ?_)
    · have hlt : j < l.length := by simpa using h
      have hx : l[j] ∈ l := List.getElem_mem hlt
      repeat (refine Run.go rfl ?_)
      refine Run.val rfl rfl rfl (ValOk.idx (acA l[j]) rfl rfl rfl rfl rfl (by omega) (by simp [hlt])) rfl ?_
      repeat (refine Run.go rfl ?_)
      refine Run.cs rfl (l06Act_ct _ (hr _ hx)) rfl rfl ?_
      repeat (refine Run.go rfl ?_)
      refine Run.cond rfl (fun h => ?_) (fun h => ?_)
      · repeat (refine Run.go rfl ?_)
        refine Run.ret hg rfl ?_
        have h : aOk l[j] = false := by simpa using h
        have : ¬ (l.all aOk = true) := by
          rw [List.all_eq_true]
          intro hh
          rw [hh _ hx] at h
          cases h
        show str [] = str _
        rw [asRes, if_neg (fun hh => this hh.2)]
      · repeat (refine Run.go rfl ?_)
        have h : aOk l[j] = true := by simpa using h
        refine Run.of (IH (j + 1) ⟨by omega, ?_⟩ (by omega)) ⟨rfl, ?_, trivial⟩ trivial
        · rw [List.take_succ_eq_append_getElem hlt, List.all_append, hall]; simp [h]
        · show i64 _ = i64 _
          rw [wrap_i64 (by omega) (by omega)]
          rfl
    · have hj' : j = l.length := by simp at h; omega
      subst hj'
      rw [List.take_length] at hall
      repeat (refine Run.go rfl ?_)
      refine Run.cond rfl (fun h => ?_) (fun h => ?_)
      · repeat (refine Run.go rfl ?_)
        refine Run.ret hg rfl ?_
        have h : 200 < l.length := by simp at h; omega
        show str [] = str _
        rw [asRes, if_neg (fun hh => by omega)]
      · have h : l.length ≤ 200 := by simp at h; omega
        have ha := List.all_eq_true.1 hall
        repeat (refine Run.go rfl ?_)
        refine Run.cs rfl (l06ListText_ct l ex h hr ha (fun x hx => aText_len (hr x hx) (ha x hx))) rfl rfl ?_
        repeat (refine Run.go rfl ?_)
        refine Run.ret hg rfl ?_
        rw [asRes, if_pos ⟨h, hall⟩]
        rfl

noncomputable def X19 : Fx := ⟨Tryd.prog, tys, 19, Tryd.f19, [0]⟩
theorem X19_ok : X19.Ok := ⟨Tryd.func19, tys_ok⟩
theorem implActsText_ct (l : List Ac) (ex : Bool) (hlen : l.length ≤ 1048576) (hr : ∀ a ∈ l, acRng a) : Ct Tryd.prog 19 [.ro 3 ex (l.map acA)] (str (asRes l)) [] := by
  refine Ct.intro X19 X19_ok rfl (by kernel_rfl) rfl rfl fun g hg => ?_
  repeat (refine Run.go rfl ?_)
  refine Run.bool 6 rfl (fun h => ?_) (fun h => ?_)
  · repeat (refine Run.go rfl ?_)
    refine Run.cond rfl (fun _ => ?_) (fun h => by simp at h)
    repeat (refine Run.go rfl ?_)
    refine Run.ret hg rfl ?_
    have h : 200 < l.length := by simp at h; omega
    show str [] = str _
    rw [asRes, if_neg (fun hh => by omega)]
  · have h : l.length ≤ 200 := by simp at h; omega
    repeat (refine Run.go rfl ?_)
    refine Run.cs rfl (areAllA0_ct l ex 49 aOk hlen (fun x hx => isAct_ct x (hr x hx))) rfl rfl ?_
    repeat (refine Run.go rfl ?_)
    refine Run.cond rfl (fun ha => ?_) (fun ha => ?_)
    · repeat (refine Run.go rfl ?_)
      refine Run.ret hg rfl ?_
      have ha : l.all aOk = false := by simpa using ha
      show str [] = str _
      rw [asRes, if_neg (fun hh => by rw [ha] at hh; exact absurd hh.2 (by simp))]
    · have ha : l.all aOk = true := by simpa using ha
      have ha' := List.all_eq_true.1 ha
      repeat (refine Run.go rfl ?_)
      refine Run.cs rfl (linesA_ct l ex 50 aText hlen (fun x hx => aText_len (hr x hx) (ha' x hx)) (fun x hx => actText_ct x (hr x hx) (ha' x hx))) rfl rfl ?_
      repeat (refine Run.go rfl ?_)
      refine Run.ret hg rfl ?_
      rw [asRes, if_pos ⟨h, ha⟩]
      rfl

noncomputable def X4 : Fx := ⟨Tryd.prog, tys, 4, Tryd.f4, [0]⟩
theorem X4_ok : X4.Ok := ⟨Tryd.func4, tys_ok⟩
theorem lawActsText_ct (l : List Ac) (hlen : l.length ≤ 1048576) (hr : ∀ a ∈ l, acRng a) : Ct Tryd.prog 4 [.ro 3 false (l.map acA)] (bo true) [] := by
  refine Ct.intro X4 X4_ok rfl (by kernel_rfl) rfl rfl fun g hg => ?_
  repeat (refine Run.go rfl ?_)
  refine Run.cs rfl (szActS_ct l false 1048576 (by omega) (by omega) hlen) rfl rfl ?_
  repeat (refine Run.go rfl ?_)
  refine Run.cond rfl (fun h => ?_) (fun hsz => ?_)
  · repeat (refine Run.go rfl ?_)
    exact Run.ret hg rfl rfl
  repeat (refine Run.go rfl ?_)
  refine Run.cs rfl (toActS_ct l false hlen) rfl (rfA _) ?_
  repeat (refine Run.go rfl ?_)
  refine Run.cs rfl (specActsText_ct l true hlen hr) (by rw [frzA]) rfl ?_
  repeat (refine Run.go rfl ?_)
  refine Run.cs rfl (toActS_ct l false hlen) rfl (rfA _) ?_
  iterate 2 (refine Run.go rfl ?_)
  refine Run.freeze (v' := .ro 3 true (l.map acA)) 5 rfl rfl (by show AV.ro _ _ (AV.frzL _) = _; rw [frzA]) ?_
  repeat (refine Run.go rfl ?_)
  refine Run.cs rfl (implActsText_ct l true hlen hr) rfl rfl ?_
  repeat (refine Run.go rfl ?_)
  refine Run.cond rfl (fun h => by simp at h) (fun h => ?_)
  repeat (refine Run.go rfl ?_)
  refine Run.cs rfl (toActS_ct l false hlen) rfl (rfA _) ?_
  repeat (refine Run.go rfl ?_)
  refine Run.cs rfl (eqActS_ct l l true true hlen) (by rw [frzA]; rfl) rfl ?_
  repeat (refine Run.go rfl ?_)
  refine Run.cond rfl (fun h => by simp at h) (fun h => ?_)
  repeat (refine Run.go rfl ?_)
  exact Run.ret hg rfl rfl
end Go.Proofs.YtilaphojceabkaaDoor
