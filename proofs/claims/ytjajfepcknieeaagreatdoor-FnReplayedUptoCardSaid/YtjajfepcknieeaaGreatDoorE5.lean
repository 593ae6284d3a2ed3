/- Contracts of the program's functions, and what follows from them. -/
import Derived.Test.YtjajfepcknieeaaGreatDoorE4
import Derived.Test.YtjajfepcknieeaaGreatDoorMG
import Derived.Test.YtjajfepcknieeaaGreatDoorMD
set_option linter.unusedVariables false
set_option maxRecDepth 100000
set_option linter.unusedSimpArgs false
namespace Go.Proofs.YtjajfepcknieeaaGreatDoor
open Go Go.Av

/-! Lists of acts, as texts. -/

noncomputable def X131 : Fx := ⟨Tryz.prog, tys, 131, Tryz.f131, [0, 1]⟩
theorem X131_ok : X131.Ok := ⟨Tryz.func131, tys_ok⟩
theorem indexA_ct (l : List Ac) (ex : Bool) (f : Nat) (caps : List AV) (p : Ac → Bool) (hlen : l.length ≤ 1048576) (hc : AV.freeL caps = true)
    (hf : ∀ x ∈ l, Ct Tryz.prog f ([acA x] ++ caps) (bo (p x)) []) : Ct Tryz.prog 131 [.ro 3 ex (l.map acA), .fn f caps] (i64 (fi p l)) [] := by
  refine Ct.intro X131 X131_ok rfl (by kernel_rfl) rfl rfl fun g hg => ?_
  repeat (refine Run.step rfl ?_)
  refine Run.loop (fun j : Nat => ⟨[(0, .ro 3 ex (l.map acA)), (1, .fn f caps), (7, i64 l.length), (8, i64 j)], []⟩) (fun j => j ≤ l.length ∧ j ≤ l.findIdx p) (fun j => l.length - j) 0 ⟨by omega, by omega⟩ ?_ ?_
  · refine St.Le.mk' ⟨rfl, rfl, ?_, rfl, trivial⟩ trivial
    show i64 _ = _
    simp
  · rintro j ⟨hj1, hj2⟩ IH
    repeat (refine Run.step rfl ?_)
    refine Run.cond rfl (fun h => ?_) (fun h => ?_)
    · have hlt : j < l.length := by simpa using h
      repeat (refine Run.step rfl ?_)
      refine Run.val rfl rfl rfl (ValOk.idx (acA l[j]) rfl rfl rfl rfl rfl (by omega) (by simp [hlt])) rfl ?_
      repeat (refine Run.step rfl ?_)
      refine Run.callp rfl rfl rfl rfl rfl rfl rfl hc rfl (hf l[j] (by simp)) (by decide) (by decide) ?_
      repeat (refine Run.step rfl ?_)
      refine Run.cond rfl (fun h => ?_) (fun h => ?_)
      · repeat (refine Run.step rfl ?_)
        refine Run.ret hg rfl ?_
        show i64 _ = _
        rw [fi_at hlt h hj2]
      · repeat (refine Run.step rfl ?_)
        refine Run.of (IH (j + 1) ⟨by omega, fi_next hlt h hj2⟩ (by omega)) ⟨rfl, rfl, rfl, ?_, trivial⟩ trivial
        show i64 _ = _
        rw [wrap_i64 (by omega) (by omega)]
        rfl
    · repeat (refine Run.step rfl ?_)
      have hj : j = l.length := by simp at h; omega
      refine Run.ret hg rfl ?_
      show i64 (-1) = _
      rw [fi_none (by omega)]

noncomputable def X83 : Fx := ⟨Tryz.prog, tys, 83, Tryz.f83, [0, 1]⟩
theorem X83_ok : X83.Ok := ⟨Tryz.func83, tys_ok⟩
theorem containsA_ct (l : List Ac) (ex : Bool) (f : Nat) (caps : List AV) (p : Ac → Bool) (hlen : l.length ≤ 1048576) (hc : AV.freeL caps = true)
    (hf : ∀ x ∈ l, Ct Tryz.prog f ([acA x] ++ caps) (bo (p x)) []) : Ct Tryz.prog 83 [.ro 3 ex (l.map acA), .fn f caps] (bo (l.any p)) [] := by
  refine Ct.intro X83 X83_ok rfl (by kernel_rfl) rfl rfl fun g hg => ?_
  repeat (refine Run.go rfl ?_)
  refine Run.callp rfl rfl rfl rfl rfl rfl (by simp [AV.freeL, AV.free, hc]) rfl rfl (indexA_ct l ex f caps p hlen hc hf) (by decide) (by decide) ?_
  repeat (refine Run.go rfl ?_)
  refine Run.ret hg rfl ?_
  show bo _ = _
  rw [← fi_nonneg]

noncomputable def X84 : Fx := ⟨Tryz.prog, tys, 84, Tryz.f84, [0, 1]⟩
theorem X84_ok : X84.Ok := ⟨Tryz.func84, tys_ok⟩
theorem areAllA10_ct (c : Ac) (f : Nat) (p : Bool) (hf : Ct Tryz.prog f [acA c] (bo p) []) : Ct Tryz.prog 84 [acA c, .rp [.fn f []] 0] (bo (!p)) [] := by
  refine Ct.intro X84 X84_ok rfl (by kernel_rfl) rfl rfl fun g hg => ?_
  repeat (refine Run.go rfl ?_)
  refine Run.cs rfl hf rfl rfl ?_
  repeat (refine Run.go rfl ?_)
  exact Run.ret hg rfl rfl

noncomputable def X40 : Fx := ⟨Tryz.prog, tys, 40, Tryz.f40, [0, 1]⟩
theorem X40_ok : X40.Ok := ⟨Tryz.func40, tys_ok⟩
theorem areAllA0_ct (l : List Ac) (ex : Bool) (f : Nat) (p : Ac → Bool) (hlen : l.length ≤ 1048576) (hf : ∀ x ∈ l, Ct Tryz.prog f [acA x] (bo (p x)) []) :
    Ct Tryz.prog 40 [.ro 3 ex (l.map acA), .fn f []] (bo (l.all p)) [] := by
  refine Ct.intro X40 X40_ok rfl (by kernel_rfl) rfl rfl fun g hg => ?_
  repeat (refine Run.go rfl ?_)
  refine Run.cs rfl (containsA_ct l ex 84 [.rp [.fn f []] 0] (fun x => !p x) hlen rfl (fun x hx => areAllA10_ct x f (p x) (hf x hx))) rfl rfl ?_
  repeat (refine Run.go rfl ?_)
  refine Run.ret hg rfl ?_
  show bo (!l.any fun x => !p x) = _
  congr 2
  simp [List.all_eq_not_any_not]

/-- Lines. -/
def lns {α : Type} (tx : α → List UInt8) (l : List α) : List UInt8 := l.flatMap fun x => tx x ++ [10]
theorem lns_step {α : Type} {tx : α → List UInt8} {l : List α} {j : Nat} (h : j < l.length) : lns tx (l.take (j + 1)) = lns tx (l.take j) ++ (tx l[j] ++ [10]) := by
  unfold lns
  rw [List.take_succ_eq_append_getElem h, List.flatMap_append]
  simp only [List.flatMap_cons, List.flatMap_nil, List.append_nil]
theorem lns_len {α : Type} {tx : α → List UInt8} {l : List α} {n : Nat} (h : ∀ x ∈ l, (tx x).length ≤ n) : (lns tx l).length ≤ l.length * (n + 1) := by
  induction l with
  | nil => simp [lns]
  | cons x l ih =>
    have h1 := h x (by simp)
    have h2 := ih fun y hy => h y (by simp [hy])
    simp only [lns, List.flatMap_cons, List.length_append, List.length_cons, List.length_nil, Nat.succ_mul] at h2 ⊢
    omega

noncomputable def X42 : Fx := ⟨Tryz.prog, tys, 42, Tryz.f42, [0, 1]⟩
theorem X42_ok : X42.Ok := ⟨Tryz.func42, tys_ok⟩
theorem linesA_ct (l : List Ac) (ex : Bool) (f : Nat) (tx : Ac → List UInt8) (hlen : l.length ≤ 1048576) (ht : ∀ x ∈ l, (tx x).length ≤ 1000) (hf : ∀ x ∈ l, Ct Tryz.prog f [acA x] (str (tx x)) []) :
    Ct Tryz.prog 42 [.ro 3 ex (l.map acA), .fn f []] (str (lns tx l)) [] := by
  refine Ct.intro0 X42 X42_ok rfl (by kernel_rfl) rfl rfl rfl fun g hF0 hg => ?_
  iterate 6 (refine Run.go rfl ?_)
  refine Run.allocM rfl rfl rfl rfl rfl rfl rfl fun b => ?_
  repeat (refine Run.go rfl ?_)
  refine Run.loop (fun jm : Nat × List (Nat × Obj) => ⟨[(0, .ro 3 ex (l.map acA)), (1, .fn f []), (5, .lit (.pointer (some ⟨b, 0, none⟩))), (8, .ro 3 ex (l.map acA)), (9, i64 (l.map acA).length), (10, i64 jm.1)], [((5, 0), .mem jm.2)]⟩)
    (fun jm => jm.1 ≤ l.length ∧ IsB 130 5 b (lns tx (l.take jm.1)) jm.2) (fun jm => l.length - jm.1) (0, [(b, .cells #[.pointer none, .slice none 0 0] 130 (0, 0))])
    ⟨by omega, ⟨_, _, [], .inl rfl, .inl ⟨rfl, rfl, rfl⟩, by simp, rfl⟩⟩ ?_ ?_
  · exact St.Le.mk' ⟨rfl, rfl, rfl, rfl, rfl, rfl, trivial⟩ ⟨rfl, trivial⟩
  · rintro ⟨j, ms⟩ ⟨hj, hB⟩ IH
    simp only at hj hB IH
    repeat (refine Run.go rfl ?_)
    refine Run.cond rfl (fun h => ?_) (fun h => ?_)
    · have hlt : j < l.length := by simpa using h
      have hx : l[j] ∈ l := List.getElem_mem hlt
      have hxl := ht _ hx
      have hll := lns_len (l := l.take j) (tx := tx) (n := 1000) fun x hx => ht x (List.mem_of_mem_take hx)
      rw [List.length_take] at hll
      repeat (refine Run.go rfl ?_)
      refine Run.val rfl rfl rfl (ValOk.idx (acA l[j]) rfl rfl rfl rfl rfl (by omega) (by simp [hlt])) rfl ?_
      repeat (refine Run.go rfl ?_)
      refine Run.cs rfl (hf _ hx) rfl rfl ?_
      refine Run.val rfl rfl rfl (ValOk.scat (tx l[j]) [10] rfl rfl rfl (by simp only [List.length_cons, List.length_nil]; omega)) rfl ?_
      have hmin : Nat.min j l.length * 1001 ≤ 1048576 * 1001 := Nat.mul_le_mul_right _ (by simp only [Nat.min_def]; split <;> omega)
      have hws : ∀ w, held w ms → Calls Tryz.prog 87 #[.pointer (some ⟨b, 0, none⟩), .string ⟨(tx l[j] ++ [10]).toArray⟩] w fun e w' => ∃ ms', IsB 130 5 b (lns tx (l.take j) ++ (tx l[j] ++ [10])) ms' ∧
          e = .returned (.tuple #[.int .i64 (tx l[j] ++ [10]).length, .nilIface]) ∧ held w' ms' ∧ Kp (ms.map Prod.fst) w w' ∧ (ms'.map Prod.fst).Nodup ∧ ∀ x ∈ ms'.map Prod.fst, x ∈ ms.map Prod.fst ∨ w.heap.size ≤ x :=
        fun w hm => writeString_raw b (lns tx (l.take j)) (tx l[j] ++ [10]) ms w hB hm (by simp only [List.length_append, List.length_cons, List.length_nil]; omega)
      generalize hs10 : tx l[j] ++ [10] = s10 at hws
      refine Run.callM (5, 0) (fun ms' => IsB 130 5 b (lns tx (l.take j) ++ s10) ms') (fun _ => .tuple #[.int .i64 s10.length, .nilIface]) (fun ms' => ms') (vs := [.pointer (some ⟨b, 0, none⟩), .string ⟨s10.toArray⟩])
        rfl rfl rfl rfl rfl rfl rfl (by kernel_rfl) hws rfl fun ms' hB' => ?_
      subst hs10
      repeat (refine Run.go rfl ?_)
      refine Run.of (IH (j + 1, ms') ⟨by simp only; omega, by simp only; rw [lns_step hlt]; exact hB'⟩ (by simp only; omega)) ⟨rfl, rfl, rfl, rfl, rfl, ?_, trivial⟩ ⟨rfl, trivial⟩
      show i64 _ = i64 _
      rw [wrap_i64 (by omega) (by omega)]
      rfl
    · have hj' : j = l.length := by simp at h; omega
      subst hj'
      rw [List.take_length] at hB
      repeat (refine Run.go rfl ?_)
      refine Run.callL (5, 0) hF0 (vs := [.pointer (some ⟨b, 0, none⟩)]) (v := .string ⟨(lns tx l).toArray⟩) rfl rfl rfl rfl rfl rfl rfl (by kernel_rfl)
        (fun w B hBw hBm hm => string_raw b (lns tx l) ms w B hB hm hBw hBm) rfl ?_
      repeat (refine Run.go rfl ?_)
      exact Run.ret hg rfl rfl

theorem aText_len {a : Ac} (hr : acRng a) (h : aOk a = true) : (aText a).length ≤ 1000 := by
  have hw := aOk_what h
  obtain ⟨w, p, b⟩ := a
  simp only at hw
  have hwl : (wordsL.getD w.toNat []).length ≤ 6 := by
    have hb : w.toNat = 0 ∨ w.toNat = 1 ∨ w.toNat = 2 ∨ w.toNat = 3 ∨ w.toNat = 4 ∨ w.toNat = 5 := by omega
    rcases hb with h | h | h | h | h | h <;> rw [h] <;> decide
  unfold aText
  simp only
  split
  · omega
  · rename_i h5
    obtain ⟨hp, hb⟩ := aOk_num h h5
    simp only at hp hb
    have lp := dl_len p.toNat (by omega)
    have lb := dl_len b.toNat (by omega)
    simp only [List.length_append, List.length_cons, List.length_nil]
    omega

def asRes (l : List Ac) : List UInt8 := if l.length ≤ 200 ∧ l.all aOk = true then lns aText l else []

noncomputable def X9 : Fx := ⟨Tryz.prog, tys, 9, Tryz.f9, [0]⟩
theorem X9_ok : X9.Ok := ⟨Tryz.func9, tys_ok⟩
theorem implActsText_ct (l : List Ac) (ex : Bool) (hlen : l.length ≤ 1048576) (hr : ∀ a ∈ l, acRng a) : Ct Tryz.prog 9 [.ro 3 ex (l.map acA)] (str (asRes l)) [] := by
  refine Ct.intro X9 X9_ok rfl (by kernel_rfl) rfl rfl fun g hg => ?_
  repeat (refine Run.go rfl ?_)
  refine Run.bool 6 rfl (fun h => ?_) (fun h => ?_)
  · repeat (refine Run.go rfl ?_)
    refine Run.cond rfl (fun _ => ?_) (fun h => by simp at h)
    repeat (refine Run.go rfl ?_)
    refine Run.ret hg rfl ?_
    have h : 200 < l.length := by simp at h; omega
    show str [] = str _
    rw [asRes, if_neg (fun hh => by omega)]
  · have h : l.length ≤ 200 := by simp at h; omega
    repeat (refine Run.go rfl ?_)
    refine Run.cs rfl (areAllA0_ct l ex 41 aOk hlen (fun x hx => isAct_ct x (hr x hx))) rfl rfl ?_
    repeat (refine Run.go rfl ?_)
    refine Run.cond rfl (fun ha => ?_) (fun ha => ?_)
    · repeat (refine Run.go rfl ?_)
      refine Run.ret hg rfl ?_
      have ha : l.all aOk = false := by simpa using ha
      show str [] = str _
      rw [asRes, if_neg (fun hh => by rw [ha] at hh; exact absurd hh.2 (by simp))]
    · have ha : l.all aOk = true := by simpa using ha
      have ha' := List.all_eq_true.1 ha
      repeat (refine Run.go rfl ?_)
      refine Run.cs rfl (linesA_ct l ex 43 aText hlen (fun x hx => aText_len (hr x hx) (ha' x hx)) (fun x hx => actText_ct x (hr x hx) (ha' x hx))) rfl rfl ?_
      repeat (refine Run.go rfl ?_)
      refine Run.ret hg rfl ?_
      rw [asRes, if_pos ⟨h, ha⟩]
      rfl

end Go.Proofs.YtjajfepcknieeaaGreatDoor
