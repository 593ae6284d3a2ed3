/- Contracts of the program's functions, and what follows from them. -/
import Derived.Test.YtmeejegdgfkogaaGreatDoorE12
import Derived.Test.YtmeejegdgfkogaaGreatDoorK2
set_option linter.unusedVariables false
set_option maxRecDepth 100000
set_option linter.unusedSimpArgs false
namespace Go.Proofs.YtmeejegdgfkogaaGreatDoor
open Go Go.Av

/-! Racks as texts. -/

/-- Lines. -/
def lns {α : Type} (tx : α → List UInt8) (l : List α) : List UInt8 := l.flatMap fun x => tx x ++ [10]
theorem lns_step {α : Type} {tx : α → List UInt8} {l : List α} {j : Nat} (h : j < l.length) : lns tx (l.take (j + 1)) = lns tx (l.take j) ++ (tx l[j] ++ [10]) := by
  unfold lns
  rw [List.take_succ_eq_append_getElem h, List.flatMap_append]
  simp only [List.flatMap_cons, List.flatMap_nil, List.append_nil]
theorem lns_len {α : Type} {tx : α → List UInt8} {l : List α} {n : Nat} (h : ∀ x ∈ l, (tx x).length ≤ n) : (lns tx l).length ≤ l.length * (n + 1) := by
  induction l with
  | nil => simp [lns]
  | cons x l ih =>
    have h1 := h x (by simp)
    have h2 := ih fun y hy => h y (by simp [hy])
    simp only [lns, List.flatMap_cons, List.length_append, List.length_cons, List.length_nil, Nat.succ_mul] at h2 ⊢
    omega

noncomputable def X44 : Fx := ⟨Tryz.prog, tys, 44, Tryz.f44, [0, 1]⟩
theorem X44_ok : X44.Ok := ⟨Tryz.func44, tys_ok⟩
theorem linesP_ct (A : Amb) (l : List Pl) (ex : Bool) (f : Nat) (tx : Pl → List UInt8) (hlen : l.length ≤ 1048576) (ht : ∀ x ∈ l, (tx x).length ≤ 1000) (hf : ∀ x ∈ l, CtA A Tryz.prog f [plA x] (str (tx x)) []) :
    CtA A Tryz.prog 44 [.ro 9 ex (l.map plA), .fn f []] (str (lns tx l)) [] := by
  refine CtA.intro0 A X44 X44_ok rfl (by kernel_rfl) rfl rfl rfl fun g hF0 hA hg => ?_
  iterate 6 (refine Run.go rfl ?_)
  refine Run.allocM rfl rfl rfl rfl rfl rfl rfl fun b => ?_
  repeat (refine Run.go rfl ?_)
  refine Run.loop (fun jm : Nat × List (Nat × Obj) => ⟨[(0, .ro 9 ex (l.map plA)), (1, .fn f []), (5, .lit (.pointer (some ⟨b, 0, none⟩))), (8, .ro 9 ex (l.map plA)), (9, i64 (l.map plA).length), (10, i64 jm.1)], [((5, 0), .mem jm.2)]⟩)
    (fun jm => jm.1 ≤ l.length ∧ IsB 108 5 b (lns tx (l.take jm.1)) jm.2) (fun jm => l.length - jm.1) (0, [(b, .cells #[.pointer none, .slice none 0 0] 108 (0, 0))])
    ⟨by omega, ⟨_, _, [], .inl rfl, .inl ⟨rfl, rfl, rfl⟩, by simp, rfl⟩⟩ ?_ ?_
  · exact St.Le.mk' ⟨rfl, rfl, rfl, rfl, rfl, rfl, trivial⟩ ⟨rfl, trivial⟩
  · rintro ⟨j, ms⟩ ⟨hj, hB⟩ IH
    simp only at hj hB IH
    repeat (refine Run.go rfl ?_)
    refine Run.cond rfl (fun h => ?_) (fun h => ?_)
    · have hlt : j < l.length := by simpa using h
      have hx : l[j] ∈ l := List.getElem_mem hlt
      have hxl := ht _ hx
      have hll := lns_len (l := l.take j) (tx := tx) (n := 1000) fun x hx => ht x (List.mem_of_mem_take hx)
      rw [List.length_take] at hll
      repeat (refine Run.go rfl ?_)
      refine Run.val rfl rfl rfl (ValOk.idx (plA l[j]) rfl rfl rfl rfl rfl (by omega) (by simp [hlt])) rfl ?_
      repeat (refine Run.go rfl ?_)
      refine Run.csA rfl ((hf _ hx).at hA) rfl rfl ?_
      refine Run.val rfl rfl rfl (ValOk.scat (tx l[j]) [10] rfl rfl rfl (by simp only [List.length_cons, List.length_nil]; omega)) rfl ?_
      have hmin : Nat.min j l.length * 1001 ≤ 1048576 * 1001 := Nat.mul_le_mul_right _ (by simp only [Nat.min_def]; split <;> omega)
      have hws : ∀ w, held w ms → Calls Tryz.prog 71 #[.pointer (some ⟨b, 0, none⟩), .string ⟨(tx l[j] ++ [10]).toArray⟩] w fun e w' => ∃ ms', IsB 108 5 b (lns tx (l.take j) ++ (tx l[j] ++ [10])) ms' ∧
          e = .returned (.tuple #[.int .i64 (tx l[j] ++ [10]).length, .nilIface]) ∧ held w' ms' ∧ Kp (ms.map Prod.fst) w w' ∧ (ms'.map Prod.fst).Nodup ∧ ∀ x ∈ ms'.map Prod.fst, x ∈ ms.map Prod.fst ∨ w.heap.size ≤ x :=
        fun w hm => writeString_raw b (lns tx (l.take j)) (tx l[j] ++ [10]) ms w hB hm (by simp only [List.length_append, List.length_cons, List.length_nil]; omega)
      generalize hs10 : tx l[j] ++ [10] = s10 at hws
      refine Run.callM (5, 0) (fun ms' => IsB 108 5 b (lns tx (l.take j) ++ s10) ms') (fun _ => .tuple #[.int .i64 s10.length, .nilIface]) (fun ms' => ms') (vs := [.pointer (some ⟨b, 0, none⟩), .string ⟨s10.toArray⟩])
        rfl rfl rfl rfl rfl rfl rfl (by kernel_rfl) hws rfl fun ms' hB' => ?_
      subst hs10
      repeat (refine Run.go rfl ?_)
      refine Run.of (IH (j + 1, ms') ⟨by simp only; omega, by simp only; rw [lns_step hlt]; exact hB'⟩ (by simp only; omega)) ⟨rfl, rfl, rfl, rfl, rfl, ?_, trivial⟩ ⟨rfl, trivial⟩
      show i64 _ = i64 _
      rw [wrap_i64 (by omega) (by omega)]
      rfl
    · have hj' : j = l.length := by simp at h; omega
      subst hj'
      rw [List.take_length] at hB
      repeat (refine Run.go rfl ?_)
      refine Run.callL (5, 0) hF0 (vs := [.pointer (some ⟨b, 0, none⟩)]) (v := .string ⟨(lns tx l).toArray⟩) rfl rfl rfl rfl rfl rfl rfl (by kernel_rfl)
        (fun w B hBw hBm hm => string_raw b (lns tx l) ms w B hB hm hBw hBm) rfl ?_
      repeat (refine Run.go rfl ?_)
      exact Run.ret hg rfl rfl

/-- The text of a rack. -/
def rkT (r : Rk) : List UInt8 := dcN r.pl ++ [10] ++ lns plT r.bs

/-- What is known of a valid rack. -/
def rkNum (r : Rk) : Prop := (0 ≤ r.pl ∧ r.pl ≤ 60) ∧ ∀ y ∈ r.bs, (0 ≤ y.p ∧ y.p ≤ 32767) ∧ bkNum y.b
theorem vR_num {r : Rk} (hr : rkOk r) (h : vR r = true) : rkNum r := by
  simp only [vR, Bool.and_eq_true] at h
  obtain ⟨⟨⟨h1, _⟩, h3⟩, _⟩ := h
  simp only [inr, Bool.and_eq_true, decide_eq_true_eq] at h1
  refine ⟨by omega, fun y hy => ?_⟩
  have := List.all_eq_true.1 h3 y hy
  simp only [vPl, inr, Bool.and_eq_true, decide_eq_true_eq] at this
  exact ⟨by omega, vB_num this.2⟩

noncomputable def X19 : Fx := ⟨Tryz.prog, tys, 19, Tryz.f19, [0]⟩
theorem X19_ok : X19.Ok := ⟨Tryz.func19, tys_ok⟩
theorem rackText_ct (r : Rk) (ex : Bool) (hlen : r.bs.length ≤ 1048576) (hn : rkNum r) : CtA ambT Tryz.prog 19 [rkR ex r] (str (rkT r)) [] := by
  obtain ⟨pl, l⟩ := r
  obtain ⟨h1, h2⟩ := hn
  simp only at h1 h2 hlen
  have lp := dcN_len (n := pl) (by omega)
  have hll := lns_len (l := l) (tx := plT) (n := 1000) fun x hx => plT_len (h2 x hx).2 (h2 x hx).1.2
  have hmul : l.length * (1000 + 1) ≤ 1048576 * 1001 := Nat.mul_le_mul_right _ hlen
  refine CtA.intro ambT X19 X19_ok rfl (by kernel_rfl) rfl rfl fun g hA hg => ?_
  repeat (refine Run.go rfl ?_)
  refine Run.draw (by kernel_rfl) (by decide +kernel) ?_
  repeat (refine Quiet.go rfl ?_)
  refine Quiet.csA rfl rfl rfl rfl rfl ((dec16_ct pl h1.1 (by omega)).at hA) rfl rfl ?_
  refine Quiet.val rfl rfl (ValOk.scat (dcN pl) [10] rfl rfl rfl (by simp only [List.length_cons, List.length_nil]; omega)) rfl ?_
  repeat (refine Quiet.go rfl ?_)
  refine Quiet.csA rfl rfl rfl rfl rfl ((linesP_ct ambT l ex 45 plT hlen (fun x hx => plT_len (h2 x hx).2 (h2 x hx).1.2) (fun x hx => placedText_ct x (h2 x hx).2 (h2 x hx).1.1 (h2 x hx).1.2)).at hA) rfl rfl ?_
  refine Quiet.val rfl rfl (ValOk.scat (dcN pl ++ [10]) (lns plT l) rfl rfl rfl (by simp only [List.length_append, List.length_cons, List.length_nil]; omega)) rfl ?_
  repeat (refine Quiet.go rfl ?_)
  refine Quiet.nil ?_
  repeat (refine Run.go rfl ?_)
  exact Run.ret hg rfl rfl

def rtRes (r : Rk) : List UInt8 := if vR r then rkT r else []

end Go.Proofs.YtmeejegdgfkogaaGreatDoor
