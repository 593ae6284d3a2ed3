/- Contracts of the program's functions, and what follows from them. -/
import Derived.Test.YtenknlnnnicdeaaGreatDoorE4
import Derived.Test.YtenknlnnnicdeaaGreatDoorE7
import Derived.Test.YtenknlnnnicdeaaGreatDoorMC
import Derived.Test.YtenknlnnnicdeaaGreatDoorME
set_option linter.unusedVariables false
set_option maxRecDepth 100000
set_option linter.unusedSimpArgs false
namespace Go.Proofs.YtenknlnnnicdeaaGreatDoor
open Go Go.Av

/-! The report of a catalogue and a shelf. -/

/-- Lines. -/
def lns {α : Type} (tx : α → List UInt8) (l : List α) : List UInt8 := l.flatMap fun x => tx x ++ [10]
theorem lns_step {α : Type} {tx : α → List UInt8} {l : List α} {j : Nat} (h : j < l.length) : lns tx (l.take (j + 1)) = lns tx (l.take j) ++ (tx l[j] ++ [10]) := by
  unfold lns
  rw [List.take_succ_eq_append_getElem h, List.flatMap_append]
  simp only [List.flatMap_cons, List.flatMap_nil, List.append_nil]
theorem lns_len {α : Type} {tx : α → List UInt8} {l : List α} {n : Nat} (h : ∀ x ∈ l, (tx x).length ≤ n) : (lns tx l).length ≤ l.length * (n + 1) := by
  induction l with
  | nil => simp [lns]
  | cons x l ih =>
    have h1 := h x (by simp)
    have h2 := ih fun y hy => h y (by simp [hy])
    simp only [lns, List.flatMap_cons, List.length_append, List.length_cons, List.length_nil, Nat.succ_mul] at h2 ⊢
    omega

noncomputable def X55 : Fx := ⟨Tryz.prog, tys, 55, Tryz.f55, [0, 1]⟩
theorem X55_ok : X55.Ok := ⟨Tryz.func55, tys_ok⟩
theorem linesB_ct (A : Amb) (l : List Bk) (ex : Bool) (f : Nat) (tx : Bk → List UInt8) (hlen : l.length ≤ 1048576) (ht : ∀ x ∈ l, (tx x).length ≤ 1000) (hf : ∀ x ∈ l, CtA A Tryz.prog f [bkA x] (str (tx x)) []) :
    CtA A Tryz.prog 55 [.ro 8 ex (l.map bkA), .fn f []] (str (lns tx l)) [] := by
  refine CtA.intro0 A X55 X55_ok rfl (by kernel_rfl) rfl rfl rfl fun g hF0 hA hg => ?_
  iterate 6 (refine Run.go rfl ?_)
  refine Run.allocM rfl rfl rfl rfl rfl rfl rfl fun b => ?_
  repeat (refine Run.go rfl ?_)
  refine Run.loop (fun jm : Nat × List (Nat × Obj) => ⟨[(0, .ro 8 ex (l.map bkA)), (1, .fn f []), (5, .lit (.pointer (some ⟨b, 0, none⟩))), (8, .ro 8 ex (l.map bkA)), (9, i64 (l.map bkA).length), (10, i64 jm.1)], [((5, 0), .mem jm.2)]⟩)
    (fun jm => jm.1 ≤ l.length ∧ IsB 119 5 b (lns tx (l.take jm.1)) jm.2) (fun jm => l.length - jm.1) (0, [(b, .cells #[.pointer none, .slice none 0 0] 119 (0, 0))])
    ⟨by omega, ⟨_, _, [], .inl rfl, .inl ⟨rfl, rfl, rfl⟩, by simp, rfl⟩⟩ ?_ ?_
  · exact St.Le.mk' ⟨rfl, rfl, rfl, rfl, rfl, rfl, trivial⟩ ⟨rfl, trivial⟩
  · rintro ⟨j, ms⟩ ⟨hj, hB⟩ IH
    simp only at hj hB IH
    repeat (refine Run.go rfl ?_)
    refine Run.cond rfl (fun h => ?_) (fun h => ?_)
    · have hlt : j < l.length := by simpa using h
      have hx : l[j] ∈ l := List.getElem_mem hlt
      have hxl := ht _ hx
      have hll := lns_len (l := l.take j) (tx := tx) (n := 1000) fun x hx => ht x (List.mem_of_mem_take hx)
      rw [List.length_take] at hll
      repeat (refine Run.go rfl ?_)
      refine Run.val rfl rfl rfl (ValOk.idx (bkA l[j]) rfl rfl rfl rfl rfl (by omega) (by simp [hlt])) rfl ?_
      repeat (refine Run.go rfl ?_)
      refine Run.csA rfl ((hf _ hx).at hA) rfl rfl ?_
      refine Run.val rfl rfl rfl (ValOk.scat (tx l[j]) [10] rfl rfl rfl (by simp only [List.length_cons, List.length_nil]; omega)) rfl ?_
      have hmin : Nat.min j l.length * 1001 ≤ 1048576 * 1001 := Nat.mul_le_mul_right _ (by simp only [Nat.min_def]; split <;> omega)
      have hws : ∀ w, held w ms → Calls Tryz.prog 102 #[.pointer (some ⟨b, 0, none⟩), .string ⟨(tx l[j] ++ [10]).toArray⟩] w fun e w' => ∃ ms', IsB 119 5 b (lns tx (l.take j) ++ (tx l[j] ++ [10])) ms' ∧
          e = .returned (.tuple #[.int .i64 (tx l[j] ++ [10]).length, .nilIface]) ∧ held w' ms' ∧ Kp (ms.map Prod.fst) w w' ∧ (ms'.map Prod.fst).Nodup ∧ ∀ x ∈ ms'.map Prod.fst, x ∈ ms.map Prod.fst ∨ w.heap.size ≤ x :=
        fun w hm => writeString_raw b (lns tx (l.take j)) (tx l[j] ++ [10]) ms w hB hm (by simp only [List.length_append, List.length_cons, List.length_nil]; omega)
      generalize hs10 : tx l[j] ++ [10] = s10 at hws
      refine Run.callM (5, 0) (fun ms' => IsB 119 5 b (lns tx (l.take j) ++ s10) ms') (fun _ => .tuple #[.int .i64 s10.length, .nilIface]) (fun ms' => ms') (vs := [.pointer (some ⟨b, 0, none⟩), .string ⟨s10.toArray⟩])
        rfl rfl rfl rfl rfl rfl rfl (by kernel_rfl) hws rfl fun ms' hB' => ?_
      subst hs10
      repeat (refine Run.go rfl ?_)
      refine Run.of (IH (j + 1, ms') ⟨by simp only; omega, by simp only; rw [lns_step hlt]; exact hB'⟩ (by simp only; omega)) ⟨rfl, rfl, rfl, rfl, rfl, ?_, trivial⟩ ⟨rfl, trivial⟩
      show i64 _ = i64 _
      rw [wrap_i64 (by omega) (by omega)]
      rfl
    · have hj' : j = l.length := by simp at h; omega
      subst hj'
      rw [List.take_length] at hB
      repeat (refine Run.go rfl ?_)
      refine Run.callL (5, 0) hF0 (vs := [.pointer (some ⟨b, 0, none⟩)]) (v := .string ⟨(lns tx l).toArray⟩) rfl rfl rfl rfl rfl rfl rfl (by kernel_rfl)
        (fun w B hBw hBm hm => string_raw b (lns tx l) ms w B hB hm hBw hBm) rfl ?_
      repeat (refine Run.go rfl ?_)
      exact Run.ret hg rfl rfl

noncomputable def X59 : Fx := ⟨Tryz.prog, tys, 59, Tryz.f59, [0, 1]⟩
theorem X59_ok : X59.Ok := ⟨Tryz.func59, tys_ok⟩
theorem linesI_ct (A : Amb) (l : List Int) (ex : Bool) (f : Nat) (s : List Bk) (e2 : Bool) (tx : Int → List UInt8) (hlen : l.length ≤ 1048576) (ht : ∀ x ∈ l, (tx x).length ≤ 1000) (hf : ∀ x ∈ l, CtA A Tryz.prog f [i64 x, .rp [.ro 8 e2 (s.map bkA)] 0] (str (tx x)) []) :
    CtA A Tryz.prog 59 [.ro 1 ex (l.map i64), .fn f [.rp [.ro 8 e2 (s.map bkA)] 0]] (str (lns tx l)) [] := by
  refine CtA.intro0 A X59 X59_ok rfl (by kernel_rfl) rfl rfl rfl fun g hF0 hA hg => ?_
  iterate 6 (refine Run.go rfl ?_)
  refine Run.allocM rfl rfl rfl rfl rfl rfl rfl fun b => ?_
  repeat (refine Run.go rfl ?_)
  refine Run.loop (fun jm : Nat × List (Nat × Obj) => ⟨[(0, .ro 1 ex (l.map i64)), (1, .fn f [.rp [.ro 8 e2 (s.map bkA)] 0]), (5, .lit (.pointer (some ⟨b, 0, none⟩))), (8, .ro 1 ex (l.map i64)), (9, i64 (l.map i64).length), (10, i64 jm.1)], [((5, 0), .mem jm.2)]⟩)
    (fun jm => jm.1 ≤ l.length ∧ IsB 119 5 b (lns tx (l.take jm.1)) jm.2) (fun jm => l.length - jm.1) (0, [(b, .cells #[.pointer none, .slice none 0 0] 119 (0, 0))])
    ⟨by omega, ⟨_, _, [], .inl rfl, .inl ⟨rfl, rfl, rfl⟩, by simp, rfl⟩⟩ ?_ ?_
  · exact St.Le.mk' ⟨rfl, rfl, rfl, rfl, rfl, rfl, trivial⟩ ⟨rfl, trivial⟩
  · rintro ⟨j, ms⟩ ⟨hj, hB⟩ IH
    simp only at hj hB IH
    repeat (refine Run.go rfl ?_)
    refine Run.cond rfl (fun h => ?_) (fun h => ?_)
    · have hlt : j < l.length := by simpa using h
      have hx : l[j] ∈ l := List.getElem_mem hlt
      have hxl := ht _ hx
      have hll := lns_len (l := l.take j) (tx := tx) (n := 1000) fun x hx => ht x (List.mem_of_mem_take hx)
      rw [List.length_take] at hll
      repeat (refine Run.go rfl ?_)
      refine Run.val rfl rfl rfl (ValOk.idx (i64 l[j]) rfl rfl rfl rfl rfl (by omega) (by simp [hlt])) rfl ?_
      repeat (refine Run.go rfl ?_)
      refine Run.csA rfl ((hf _ hx).at hA) rfl rfl ?_
      refine Run.val rfl rfl rfl (ValOk.scat (tx l[j]) [10] rfl rfl rfl (by simp only [List.length_cons, List.length_nil]; omega)) rfl ?_
      have hmin : Nat.min j l.length * 1001 ≤ 1048576 * 1001 := Nat.mul_le_mul_right _ (by simp only [Nat.min_def]; split <;> omega)
      have hws : ∀ w, held w ms → Calls Tryz.prog 102 #[.pointer (some ⟨b, 0, none⟩), .string ⟨(tx l[j] ++ [10]).toArray⟩] w fun e w' => ∃ ms', IsB 119 5 b (lns tx (l.take j) ++ (tx l[j] ++ [10])) ms' ∧
          e = .returned (.tuple #[.int .i64 (tx l[j] ++ [10]).length, .nilIface]) ∧ held w' ms' ∧ Kp (ms.map Prod.fst) w w' ∧ (ms'.map Prod.fst).Nodup ∧ ∀ x ∈ ms'.map Prod.fst, x ∈ ms.map Prod.fst ∨ w.heap.size ≤ x :=
        fun w hm => writeString_raw b (lns tx (l.take j)) (tx l[j] ++ [10]) ms w hB hm (by simp only [List.length_append, List.length_cons, List.length_nil]; omega)
      generalize hs10 : tx l[j] ++ [10] = s10 at hws
      refine Run.callM (5, 0) (fun ms' => IsB 119 5 b (lns tx (l.take j) ++ s10) ms') (fun _ => .tuple #[.int .i64 s10.length, .nilIface]) (fun ms' => ms') (vs := [.pointer (some ⟨b, 0, none⟩), .string ⟨s10.toArray⟩])
        rfl rfl rfl rfl rfl rfl rfl (by kernel_rfl) hws rfl fun ms' hB' => ?_
      subst hs10
      repeat (refine Run.go rfl ?_)
      refine Run.of (IH (j + 1, ms') ⟨by simp only; omega, by simp only; rw [lns_step hlt]; exact hB'⟩ (by simp only; omega)) ⟨rfl, rfl, rfl, rfl, rfl, ?_, trivial⟩ ⟨rfl, trivial⟩
      show i64 _ = i64 _
      rw [wrap_i64 (by omega) (by omega)]
      rfl
    · have hj' : j = l.length := by simp at h; omega
      subst hj'
      rw [List.take_length] at hB
      repeat (refine Run.go rfl ?_)
      refine Run.callL (5, 0) hF0 (vs := [.pointer (some ⟨b, 0, none⟩)]) (v := .string ⟨(lns tx l).toArray⟩) rfl rfl rfl rfl rfl rfl rfl (by kernel_rfl)
        (fun w B hBw hBm hm => string_raw b (lns tx l) ms w B hB hm hBw hBm) rfl ?_
      repeat (refine Run.go rfl ?_)
      exact Run.ret hg rfl rfl

noncomputable def X61 : Fx := ⟨Tryz.prog, tys, 61, Tryz.f61, [0]⟩
theorem X61_ok : X61.Ok := ⟨Tryz.func61, tys_ok⟩
theorem dec64_ct (n : Int) (h0 : 0 ≤ n) (h1 : n ≤ 9223372036854775807) : CtA ambT Tryz.prog 61 [i64 n] (str (Lib.decDigits n.toNat)) [] := by
  obtain ⟨m, rfl⟩ := Int.eq_ofNat_of_zero_le h0
  refine CtA.intro ambT X61 X61_ok rfl rfl rfl rfl fun g hA hg => ?_
  repeat (refine Run.go rfl ?_)
  try rw [show IntKind.i64.wrap ((m : Nat) : Int) = m from wrap_i64 (by omega) (by omega)]
  refine Run.csA rfl ((FormatInt_ctA m (by omega)).at hA) rfl rfl ?_
  repeat (refine Run.go rfl ?_)
  exact Run.ret hg rfl rfl

def misT (x : Bk) : List UInt8 := [109, 105, 115, 115, 105, 110, 103, 32] ++ labT x
def forT (x : Bk) : List UInt8 := [102, 111, 114, 101, 105, 103, 110, 32] ++ labT x
def plcT (l : List Bk) (n : Int) : List UInt8 := [112, 108, 97, 99, 101, 32] ++ Lib.decDigits n.toNat ++ [32] ++ labT (l.getD n.toNat bk0)

theorem labT_len {x : Bk} (h : lbOk x) : (labT x).length = 9 := by
  obtain ⟨_, _, l8, _⟩ := lab8_facts h
  unfold labT
  rw [List.length_append, l8]
  rfl
theorem misT_len {x : Bk} (h : lbOk x) : (misT x).length ≤ 1000 := by
  unfold misT
  rw [List.length_append, labT_len h]
  decide
theorem forT_len {x : Bk} (h : lbOk x) : (forT x).length ≤ 1000 := by
  unfold forT
  rw [List.length_append, labT_len h]
  decide

noncomputable def X56 : Fx := ⟨Tryz.prog, tys, 56, Tryz.f56, [0]⟩
theorem X56_ok : X56.Ok := ⟨Tryz.func56, tys_ok⟩
theorem reportOf1_ct (x : Bk) (h : lbOk x) : CtA ambT Tryz.prog 56 [bkA x] (str (misT x)) [] := by
  have hl := labT_len h
  refine CtA.intro ambT X56 X56_ok rfl (by kernel_rfl) rfl rfl fun g hA hg => ?_
  repeat (refine Run.go rfl ?_)
  refine Run.csA rfl ((labelOf_ct x h).at hA) rfl rfl ?_
  refine Run.val rfl rfl rfl (ValOk.scat [109, 105, 115, 115, 105, 110, 103, 32] (labT x) rfl rfl rfl (by rw [hl]; decide)) rfl ?_
  repeat (refine Run.go rfl ?_)
  exact Run.ret hg rfl rfl

noncomputable def X58 : Fx := ⟨Tryz.prog, tys, 58, Tryz.f58, [0]⟩
theorem X58_ok : X58.Ok := ⟨Tryz.func58, tys_ok⟩
theorem reportOf2_ct (x : Bk) (h : lbOk x) : CtA ambT Tryz.prog 58 [bkA x] (str (forT x)) [] := by
  have hl := labT_len h
  refine CtA.intro ambT X58 X58_ok rfl (by kernel_rfl) rfl rfl fun g hA hg => ?_
  repeat (refine Run.go rfl ?_)
  refine Run.csA rfl ((labelOf_ct x h).at hA) rfl rfl ?_
  refine Run.val rfl rfl rfl (ValOk.scat [102, 111, 114, 101, 105, 103, 110, 32] (labT x) rfl rfl rfl (by rw [hl]; decide)) rfl ?_
  repeat (refine Run.go rfl ?_)
  exact Run.ret hg rfl rfl

theorem getD_bk {l : List Bk} {i : Nat} (h : i < l.length) : l.getD i bk0 = l[i] := by
  rw [List.getD_eq_getElem?_getD, List.getElem?_eq_getElem h]
  rfl

noncomputable def X60 : Fx := ⟨Tryz.prog, tys, 60, Tryz.f60, [0]⟩
theorem X60_ok : X60.Ok := ⟨Tryz.func60, tys_ok⟩
theorem reportOf3_ct (l : List Bk) (ex : Bool) (i : Nat) (hi : i < l.length) (hlen : l.length ≤ 1048576) (h : lbOk l[i]) :
    CtA ambT Tryz.prog 60 [i64 i, .rp [.ro 8 ex (l.map bkA)] 0] (str (plcT l i)) [] := by
  have hl := labT_len h
  have hd := dl_len i (by omega)
  have e : plcT l i = [112, 108, 97, 99, 101, 32] ++ Lib.decDigits i ++ [32] ++ labT l[i] := by
    unfold plcT
    rw [Int.toNat_natCast, getD_bk hi]
  rw [e]
  refine CtA.intro ambT X60 X60_ok rfl (by kernel_rfl) rfl rfl fun g hA hg => ?_
  repeat (refine Run.go rfl ?_)
  refine Run.draw (by kernel_rfl) (by decide +kernel) ?_
  repeat (refine Quiet.go rfl ?_)
  refine Quiet.csA rfl rfl rfl rfl rfl ((dec64_ct i (by omega) (by omega)).at hA) rfl rfl ?_
  rw [Int.toNat_natCast]
  refine Quiet.val rfl rfl (ValOk.scat [112, 108, 97, 99, 101, 32] (Lib.decDigits i) rfl rfl rfl (by simp only [List.length_cons, List.length_nil]; omega)) rfl ?_
  refine Quiet.val rfl rfl (ValOk.scat ([112, 108, 97, 99, 101, 32] ++ Lib.decDigits i) [32] rfl rfl rfl (by simp only [List.length_append, List.length_cons, List.length_nil]; omega)) rfl ?_
  repeat (refine Quiet.go rfl ?_)
  refine Quiet.val rfl rfl (ValOk.idx (bkA l[i]) rfl rfl rfl rfl rfl (by omega) (by simp [hi])) rfl ?_
  repeat (refine Quiet.go rfl ?_)
  refine Quiet.csA rfl rfl rfl rfl rfl ((labelOf_ct l[i] h).at hA) rfl rfl ?_
  refine Quiet.val rfl rfl (ValOk.scat ([112, 108, 97, 99, 101, 32] ++ Lib.decDigits i ++ [32]) (labT l[i]) rfl rfl rfl (by simp only [List.length_append, List.length_cons, List.length_nil]; omega)) rfl ?_
  repeat (refine Quiet.go rfl ?_)
  refine Quiet.nil ?_
  repeat (refine Run.go rfl ?_)
  exact Run.ret hg rfl rfl

theorem more_mem {l o : List Bk} {n : Nat} (hn : n ≤ l.length) : ∀ x ∈ more l o n, x ∈ l := by
  induction n with
  | zero => intro x hx; simp [more] at hx
  | succ j ih =>
    intro x hx
    unfold more at hx
    rcases List.mem_append.1 hx with h | h
    · exact ih (by omega) x h
    · split at h
      · rw [List.mem_singleton] at h
        rw [h, getD_bk (by omega)]
        exact List.getElem_mem _
      · simp at h

theorem stCode_v {a b : List Bk} (h : stCode a b = 0) : vBs a = true ∧ vBs b = true := by
  unfold stCode at h
  split at h
  · rename_i hc
    simpa using hc
  · omega
theorem vBs_lb {l : List Bk} (h : vBs l = true) : ∀ x ∈ l, lbOk x := by
  intro x hx
  refine vB_lb ?_
  simp only [vBs, Bool.and_eq_true] at h
  first | exact List.all_eq_true.1 h.2 x hx | exact List.all_eq_true.1 h.1 x hx

/-- The report. -/
def rpT (c s : List Bk) : List UInt8 := lns misT (more c s c.length) ++ lns forT (more s c s.length) ++ lns (plcT s) ((oop s).map fun k : Nat => (k : Int))
def rpA (c s : List Bk) : AV := if stCode c s = 0 then .tup [str (rpT c s), i64 0] else .tup [str [], i64 (stCode c s)]

theorem lnsB_len {tx : Bk → List UInt8} {l : List Bk} (h : ∀ x ∈ l, (tx x).length ≤ 1000) (hlen : l.length ≤ 1048576) : (lns tx l).length ≤ 1049624576 := by
  have h1 := lns_len (l := l) (tx := tx) (n := 1000) h
  have h2 : l.length * (1000 + 1) ≤ 1048576 * 1001 := Nat.mul_le_mul_right _ hlen
  omega

noncomputable def X18 : Fx := ⟨Tryz.prog, tys, 18, Tryz.f18, [0]⟩
theorem X18_ok : X18.Ok := ⟨Tryz.func18, tys_ok⟩
theorem implReportOf_ct (c s : List Bk) (e1 e2 : Bool) (hc : c.length ≤ 1048576 ∧ ∀ x ∈ c, bkRng x) (hs : s.length ≤ 1048576 ∧ ∀ x ∈ s, bkRng x) :
    CtA ambT Tryz.prog 18 [.ro 8 e1 (c.map bkA), .ro 8 e2 (s.map bkA)] (rpA c s) [] := by
  refine CtA.intro ambT X18 X18_ok rfl (by kernel_rfl) rfl rfl fun g hA hg => ?_
  iterate 3 (refine Run.go rfl ?_)
  refine Run.freezeBox 3 (3, 0) (cs := [.ro 8 e2 (s.map bkA)]) [.ro 8 e2 (s.map bkA)] rfl rfl rfl rfl ?_
  repeat (refine Run.go rfl ?_)
  refine Run.cs rfl (stockCode_ct c s e1 e2 hc.1 hs.1) rfl rfl ?_
  repeat (refine Run.go rfl ?_)
  refine Run.cond rfl (fun h => ?_) (fun h => ?_)
  · have h : stCode c s ≠ 0 := by simpa using h
    repeat (refine Run.go rfl ?_)
    refine Run.ret hg rfl ?_
    rw [rpA, if_neg h]
    rfl
  have h : stCode c s = 0 := by simpa using h
  obtain ⟨hvc, hvs⟩ := stCode_v h
  have hlc := vBs_lb hvc
  have hls := vBs_lb hvs
  have m1 := more_len c s c.length
  have m2 := more_len s c s.length
  have q1 : ∀ x ∈ more c s c.length, lbOk x := fun x hx => hlc x (more_mem (Nat.le_refl _) x hx)
  have q2 : ∀ x ∈ more s c s.length, lbOk x := fun x hx => hls x (more_mem (Nat.le_refl _) x hx)
  have q3 : ∀ x ∈ (oop s).map (fun k : Nat => (k : Int)), ∃ i : Nat, x = i ∧ i < s.length := by
    intro x hx
    obtain ⟨k, hk, rfl⟩ := List.mem_map.1 hx
    exact ⟨k, rfl, oop_lt s k hk⟩
  have q4 : ((oop s).map fun k : Nat => (k : Int)).length ≤ 1048576 := by
    rw [List.length_map]
    exact Nat.le_trans (oop_le s) hs.1
  have q5 : ∀ x ∈ (oop s).map (fun k : Nat => (k : Int)), (plcT s x).length ≤ 1000 := by
    intro x hx
    obtain ⟨i, rfl, hi⟩ := q3 x hx
    have hd := dl_len i (by have := hs.1; omega)
    have := labT_len (hls _ (List.getElem_mem hi))
    unfold plcT
    rw [Int.toNat_natCast, getD_bk hi]
    simp only [List.length_append, List.length_cons, List.length_nil]
    omega
  have r1 := lnsB_len (tx := misT) (fun x hx => misT_len (q1 x hx)) (by omega : (more c s c.length).length ≤ 1048576)
  have r2 := lnsB_len (tx := forT) (fun x hx => forT_len (q2 x hx)) (by omega : (more s c s.length).length ≤ 1048576)
  have r3 := lns_len (l := (oop s).map fun k : Nat => (k : Int)) (tx := plcT s) (n := 1000) q5
  have r4 : ((oop s).map fun k : Nat => (k : Int)).length * (1000 + 1) ≤ 1048576 * 1001 := Nat.mul_le_mul_right _ q4
  repeat (refine Run.go rfl ?_)
  refine Run.cs rfl (surplus_ct c s e1 e2 hc hs) rfl (rfB _) ?_
  refine Run.csA rfl ((linesB_ct ambT (more c s c.length) false 56 misT (by omega) (fun x hx => misT_len (q1 x hx)) (fun x hx => reportOf1_ct x (q1 x hx))).at hA) (by rw [frzB]) rfl ?_
  repeat (refine Run.go rfl ?_)
  refine Run.cs rfl (surplus_ct s c e2 e1 hs hc) rfl (rfB _) ?_
  refine Run.csA rfl ((linesB_ct ambT (more s c s.length) false 58 forT (by omega) (fun x hx => forT_len (q2 x hx)) (fun x hx => reportOf2_ct x (q2 x hx))).at hA) (by rw [frzB]) rfl ?_
  refine Run.val rfl rfl rfl (ValOk.scat (lns misT (more c s c.length)) (lns forT (more s c s.length)) rfl rfl rfl (by omega)) rfl ?_
  repeat (refine Run.go rfl ?_)
  refine Run.cs rfl (outOfPlace_ct s e2 hs) rfl (nA_rf _) ?_
  repeat (refine Run.go rfl ?_)
  refine Run.csA rfl ((linesI_ct ambT ((oop s).map fun k : Nat => (k : Int)) false 60 s e2 (plcT s) q4 q5 (fun x hx => by
    obtain ⟨i, rfl, hi⟩ := q3 x hx
    exact reportOf3_ct s e2 i hi hs.1 (hls _ (List.getElem_mem hi)))).at hA) (by rw [nA_eq, frz64]) rfl ?_
  refine Run.val rfl rfl rfl (ValOk.scat (lns misT (more c s c.length) ++ lns forT (more s c s.length)) (lns (plcT s) ((oop s).map fun k : Nat => (k : Int))) rfl rfl rfl (by rw [List.length_append]; omega)) rfl ?_
  repeat (refine Run.go rfl ?_)
  refine Run.ret hg rfl ?_
  rw [rpA, if_pos h]
  rfl

noncomputable def X19 : Fx := ⟨Tryz.prog, tys, 19, Tryz.f19, [0]⟩
theorem X19_ok : X19.Ok := ⟨Tryz.func19, tys_ok⟩
theorem specReportOf_ct (c s : List Bk) (e1 e2 : Bool) (hc : c.length ≤ 1048576 ∧ ∀ x ∈ c, bkRng x) (hs : s.length ≤ 1048576 ∧ ∀ x ∈ s, bkRng x) :
    Ct Tryz.prog 19 [.ro 8 e1 (c.map bkA), .ro 8 e2 (s.map bkA)] (rpA c s) [] := by
  refine Ct.intro X19 X19_ok rfl (by kernel_rfl) rfl rfl fun g hg => ?_
  repeat (refine Run.go rfl ?_)
  refine Run.cs rfl (l07Both_ct c s e1 e2 hc hs) rfl rfl ?_
  repeat (refine Run.go rfl ?_)
  refine Run.cond rfl (fun h => ?_) (fun h => ?_)
  · have h : stCode c s ≠ 0 := by simpa using h
    repeat (refine Run.go rfl ?_)
    refine Run.ret hg rfl ?_
    rw [rpA, if_neg h]
    rfl
  have h0 : stCode c s = 0 := by simpa using h
  obtain ⟨hvc, hvs⟩ := stCode_v h0
  have hlc := vBs_lb hvc
  have hls := vBs_lb hvs
  have m1 : (more c s c.length).length ≤ 1048576 := Nat.le_trans (more_len c s c.length) hc.1
  have m2 : (more s c s.length).length ≤ 1048576 := Nat.le_trans (more_len s c s.length) hs.1
  have q1 : ∀ x ∈ more c s c.length, lbOk x := fun x hx => hlc x (more_mem (Nat.le_refl _) x hx)
  have q2 : ∀ x ∈ more s c s.length, lbOk x := fun x hx => hls x (more_mem (Nat.le_refl _) x hx)
  have p1 : ∀ x ∈ more c s c.length, bkRng x := fun x hx => hc.2 x (more_mem (Nat.le_refl _) x hx)
  have p2 : ∀ x ∈ more s c s.length, bkRng x := fun x hx => hs.2 x (more_mem (Nat.le_refl _) x hx)
  have q3 : ∀ x ∈ (oop s).map (fun k : Nat => (k : Int)), ∃ i : Nat, x = i ∧ i < s.length := by
    intro x hx
    obtain ⟨k, hk, rfl⟩ := List.mem_map.1 hx
    exact ⟨k, rfl, oop_lt s k hk⟩
  have q4 : ((oop s).map fun k : Nat => (k : Int)).length ≤ 1048576 := by
    rw [List.length_map]
    exact Nat.le_trans (oop_le s) hs.1
  have q5 : ∀ x ∈ (oop s).map (fun k : Nat => (k : Int)), (plcT s x).length ≤ 1000 := by
    intro x hx
    obtain ⟨i, rfl, hi⟩ := q3 x hx
    have hd := dl_len i (by have := hs.1; omega)
    have := labT_len (hls _ (List.getElem_mem hi))
    unfold plcT
    rw [Int.toNat_natCast, getD_bk hi]
    simp only [List.length_append, List.length_cons, List.length_nil]
    omega
  have r1 := lnsB_len (tx := misT) (fun x hx => misT_len (q1 x hx)) m1
  have r2 := lnsB_len (tx := forT) (fun x hx => forT_len (q2 x hx)) m2
  have hfin : rpA c s = .tup [str (lns misT (more c s c.length) ++ lns forT (more s c s.length) ++ lns (plcT s) ((oop s).map fun k : Nat => (k : Int))), i64 0] := by
    rw [rpA, if_pos h0]
    rfl
  have hM1 := l07More_ct c s e1 e2 hc hs
  have hM2 := l07More_ct s c e2 e1 hs hc
  generalize more c s c.length = A at m1 q1 p1 r1 hfin hM1
  generalize more s c s.length = B at m2 q2 p2 r2 hfin hM2
  repeat (refine Run.go rfl ?_)
  refine Run.cs rfl hM1 rfl (rfB _) ?_
  repeat (refine Run.go rfl ?_)
  refine Run.freeze 8 (v' := .ro 8 false (A.map bkA)) rfl rfl (by show AV.ro 8 false (AV.frzL _) = _; rw [frzB]) ?_
  refine Run.loop (fun j : Nat => ⟨[(0, .ro 8 e1 (c.map bkA)), (1, .ro 8 e2 (s.map bkA)), (7, str ([] ++ lns misT (A.take j))), (8, .ro 8 false (A.map bkA)), (9, i64 j)], []⟩) (fun j => j ≤ A.length) (fun j => A.length - j) 0 (by omega) ?_ ?_
  · refine St.Le.mk' ⟨rfl, rfl, ?_, rfl, rfl, trivial⟩ trivial
    show str _ = str _
    simp [lns]
  intro j hj IH
  repeat (refine Run.go rfl ?_)
  refine Run.cond rfl (fun h => ?_) (fun h => ?_)
  · have hlt : j < A.length := by simpa using h
    have hx : A[j] ∈ A := List.getElem_mem hlt
    have hxl := labT_len (q1 _ hx)
    have hll := lnsB_len (tx := misT) (l := A.take j) (fun x hx => misT_len (q1 x (List.mem_of_mem_take hx))) (by rw [List.length_take]; exact Nat.le_trans (Nat.min_le_right _ _) m1)
    have hsp : lns misT (A.take (j + 1)) = lns misT (A.take j) ++ ([109, 105, 115, 115, 105, 110, 103, 32] ++ labT A[j] ++ [10]) := lns_step hlt
    have hxr := p1 _ hx
    have hxb := q1 _ hx
    have hat : (A.map bkA)[j]? = some (bkA A[j]) := by simp [hlt]
    generalize A[j] = x at hxl hsp hxr hxb hat
    generalize lns misT (A.take j) = T at hll hsp
    repeat (refine Run.go rfl ?_)
    refine Run.val rfl rfl rfl (ValOk.idx (bkA x) rfl rfl rfl rfl rfl (by omega) hat) rfl ?_
    repeat (refine Run.go rfl ?_)
    refine Run.cs rfl (l07Label_ct x hxr hxb) rfl rfl ?_
    refine Run.val rfl rfl rfl (ValOk.scat [109, 105, 115, 115, 105, 110, 103, 32] (labT x) rfl rfl rfl (by simp only [List.length_cons, List.length_nil]; omega)) rfl ?_
    refine Run.val rfl rfl rfl (ValOk.scat ([109, 105, 115, 115, 105, 110, 103, 32] ++ labT x) [10] rfl rfl rfl (by simp only [List.length_append, List.length_cons, List.length_nil]; omega)) rfl ?_
    refine Run.val rfl rfl rfl (ValOk.scat ([] ++ T) ([109, 105, 115, 115, 105, 110, 103, 32] ++ labT x ++ [10]) rfl rfl rfl (by simp only [List.length_append, List.length_cons, List.length_nil]; omega)) rfl ?_
    repeat (refine Run.go rfl ?_)
    refine Run.of (IH (j + 1) (by omega) (by omega)) ⟨rfl, rfl, ?_, rfl, ?_, trivial⟩ trivial
    · show str _ = str _
      rw [hsp, List.append_assoc]
    · show i64 _ = i64 _
      rw [wrap_i64 (by omega) (by omega)]
      rfl
  have hj' : j = A.length := by simp at h; omega
  subst hj'
  rw [List.take_length]
  rw [List.nil_append]
  generalize lns misT A = TA at r1 hfin
  repeat (refine Run.go rfl ?_)
  refine Run.cs rfl hM2 rfl (rfB _) ?_
  repeat (refine Run.go rfl ?_)
  refine Run.freeze 10 (v' := .ro 8 false (B.map bkA)) rfl rfl (by show AV.ro 8 false (AV.frzL _) = _; rw [frzB]) ?_
  refine Run.loop (fun j : Nat => ⟨[(0, .ro 8 e1 (c.map bkA)), (1, .ro 8 e2 (s.map bkA)), (7, str (TA ++ lns forT (B.take j))), (10, .ro 8 false (B.map bkA)), (11, i64 j)], []⟩) (fun j => j ≤ B.length) (fun j => B.length - j) 0 (by omega) ?_ ?_
  · refine St.Le.mk' ⟨rfl, rfl, ?_, rfl, rfl, trivial⟩ trivial
    show str _ = str _
    simp [lns]
  intro j hj IH
  repeat (refine Run.go rfl ?_)
  refine Run.cond rfl (fun h => ?_) (fun h => ?_)
  · have hlt : j < B.length := by simpa using h
    have hx : B[j] ∈ B := List.getElem_mem hlt
    have hxl := labT_len (q2 _ hx)
    have hll := lnsB_len (tx := forT) (l := B.take j) (fun x hx => forT_len (q2 x (List.mem_of_mem_take hx))) (by rw [List.length_take]; exact Nat.le_trans (Nat.min_le_right _ _) m2)
    have hsp : lns forT (B.take (j + 1)) = lns forT (B.take j) ++ ([102, 111, 114, 101, 105, 103, 110, 32] ++ labT B[j] ++ [10]) := lns_step hlt
    have hxr := p2 _ hx
    have hxb := q2 _ hx
    have hat : (B.map bkA)[j]? = some (bkA B[j]) := by simp [hlt]
    generalize B[j] = x at hxl hsp hxr hxb hat
    generalize lns forT (B.take j) = T at hll hsp
    repeat (refine Run.go rfl ?_)
    refine Run.val rfl rfl rfl (ValOk.idx (bkA x) rfl rfl rfl rfl rfl (by omega) hat) rfl ?_
    repeat (refine Run.go rfl ?_)
    refine Run.cs rfl (l07Label_ct x hxr hxb) rfl rfl ?_
    refine Run.val rfl rfl rfl (ValOk.scat [102, 111, 114, 101, 105, 103, 110, 32] (labT x) rfl rfl rfl (by simp only [List.length_cons, List.length_nil]; omega)) rfl ?_
    refine Run.val rfl rfl rfl (ValOk.scat ([102, 111, 114, 101, 105, 103, 110, 32] ++ labT x) [10] rfl rfl rfl (by simp only [List.length_append, List.length_cons, List.length_nil]; omega)) rfl ?_
    refine Run.val rfl rfl rfl (ValOk.scat (TA ++ T) ([102, 111, 114, 101, 105, 103, 110, 32] ++ labT x ++ [10]) rfl rfl rfl (by simp only [List.length_append, List.length_cons, List.length_nil]; omega)) rfl ?_
    repeat (refine Run.go rfl ?_)
    refine Run.of (IH (j + 1) (by omega) (by omega)) ⟨rfl, rfl, ?_, rfl, ?_, trivial⟩ trivial
    · show str _ = str _
      rw [hsp, List.append_assoc]
    · show i64 _ = i64 _
      rw [wrap_i64 (by omega) (by omega)]
      rfl
  have hj' : j = B.length := by simp at h; omega
  subst hj'
  rw [List.take_length]
  generalize lns forT B = TB at r2 hfin
  repeat (refine Run.go rfl ?_)
  refine Run.cs rfl (l07Out_ct s e2 hs) rfl (nA_rf _) ?_
  repeat (refine Run.go rfl ?_)
  refine Run.freeze 12 (v' := .ro 1 false (((oop s).map fun k : Nat => (k : Int)).map i64)) rfl rfl (by rw [nA_eq]; show AV.ro 1 false (AV.frzL _) = _; rw [frz64]) ?_
  generalize (oop s).map (fun k : Nat => (k : Int)) = O at q3 q4 q5 hfin
  refine Run.loop (fun j : Nat => ⟨[(1, .ro 8 e2 (s.map bkA)), (7, str (TA ++ TB ++ lns (plcT s) (O.take j))), (12, .ro 1 false (O.map i64)), (13, i64 j)], []⟩) (fun j => j ≤ O.length) (fun j => O.length - j) 0 (by omega) ?_ ?_
  · refine St.Le.mk' ⟨rfl, ?_, rfl, rfl, trivial⟩ trivial
    show str _ = str _
    simp [lns]
  intro j hj IH
  repeat (refine Run.go rfl ?_)
  refine Run.cond rfl (fun h => ?_) (fun h => ?_)
  · have hlt : j < O.length := by simpa using h
    obtain ⟨i, hxi, hi⟩ := q3 _ (List.getElem_mem hlt)
    have hlb := hls _ (List.getElem_mem hi)
    have hrg := hs.2 _ (List.getElem_mem hi)
    have hxl := labT_len hlb
    have hd := dl_len i (by have := hs.1; omega)
    have hll := lns_len (l := O.take j) (tx := plcT s) (n := 1000) fun x hx => q5 x (List.mem_of_mem_take hx)
    rw [List.length_take] at hll
    have hmin : Nat.min j O.length * 1001 ≤ 1048576 * 1001 := Nat.mul_le_mul_right _ (Nat.le_trans (Nat.min_le_right _ _) q4)
    have hsp : lns (plcT s) (O.take (j + 1)) = lns (plcT s) (O.take j) ++ ([112, 108, 97, 99, 101, 32] ++ Lib.decDigits i ++ [32] ++ labT s[i] ++ [10]) := by
      rw [lns_step hlt, hxi]
      unfold plcT
      rw [Int.toNat_natCast, getD_bk hi]
    have hat : (O.map i64)[j]? = some (i64 i) := by rw [List.getElem?_map, List.getElem?_eq_getElem hlt, hxi]; rfl
    have hat2 : (s.map bkA)[i]? = some (bkA s[i]) := by simp [hi]
    have hsl := hs.1
    generalize s[i] = x at hxl hsp hrg hlb hat2
    generalize lns (plcT s) (O.take j) = T at hll hsp
    repeat (refine Run.go rfl ?_)
    refine Run.draw (by kernel_rfl) (by decide +kernel) ?_
    repeat (refine Quiet.go rfl ?_)
    refine Quiet.val rfl rfl (ValOk.idx (i64 i) rfl rfl rfl rfl rfl (by omega) hat) rfl ?_
    repeat (refine Quiet.go rfl ?_)
    refine Quiet.cs rfl rfl rfl rfl rfl (Decimal_ct i (by omega)) rfl rfl ?_
    refine Quiet.val rfl rfl (ValOk.scat [112, 108, 97, 99, 101, 32] (Lib.decDigits i) rfl rfl rfl (by simp only [List.length_cons, List.length_nil]; omega)) rfl ?_
    refine Quiet.val rfl rfl (ValOk.scat ([112, 108, 97, 99, 101, 32] ++ Lib.decDigits i) [32] rfl rfl rfl (by simp only [List.length_append, List.length_cons, List.length_nil]; omega)) rfl ?_
    repeat (refine Quiet.go rfl ?_)
    refine Quiet.val rfl rfl (ValOk.idx (i64 i) rfl rfl rfl rfl rfl (by omega) hat) rfl ?_
    repeat (refine Quiet.go rfl ?_)
    refine Quiet.val rfl rfl (ValOk.idx (bkA x) rfl rfl rfl rfl rfl (by omega) hat2) rfl ?_
    repeat (refine Quiet.go rfl ?_)
    refine Quiet.cs rfl rfl rfl rfl rfl (l07Label_ct x hrg hlb) rfl rfl ?_
    refine Quiet.val rfl rfl (ValOk.scat ([112, 108, 97, 99, 101, 32] ++ Lib.decDigits i ++ [32]) (labT x) rfl rfl rfl (by simp only [List.length_append, List.length_cons, List.length_nil]; omega)) rfl ?_
    refine Quiet.val rfl rfl (ValOk.scat ([112, 108, 97, 99, 101, 32] ++ Lib.decDigits i ++ [32] ++ labT x) [10] rfl rfl rfl (by simp only [List.length_append, List.length_cons, List.length_nil]; omega)) rfl ?_
    refine Quiet.val rfl rfl (ValOk.scat (TA ++ TB ++ T) ([112, 108, 97, 99, 101, 32] ++ Lib.decDigits i ++ [32] ++ labT x ++ [10]) rfl rfl rfl (by simp only [List.length_append, List.length_cons, List.length_nil]; omega)) rfl ?_
    repeat (refine Quiet.go rfl ?_)
    refine Quiet.nil ?_
    repeat (refine Run.go rfl ?_)
    refine Run.of (IH (j + 1) (by omega) (by omega)) ⟨rfl, ?_, rfl, ?_, trivial⟩ trivial
    · show str _ = str _
      rw [hsp, List.append_assoc]
    · show i64 _ = i64 _
      rw [wrap_i64 (by omega) (by omega)]
      rfl
  have hj' : j = O.length := by simp at h; omega
  subst hj'
  rw [List.take_length]
  repeat (refine Run.go rfl ?_)
  refine Run.ret hg rfl ?_
  rw [hfin]
  rfl

end Go.Proofs.YtenknlnnnicdeaaGreatDoor
