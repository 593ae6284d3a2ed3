/- Slices of the call's own: made, appended to, written. -/
import Derived.Test.YtoeocaenflkajaaAvSlice
import Derived.Laws.AppendOwn
import Derived.Laws.MakeOwn
namespace Go.Av
open Go Go.RowKit

/-- The cells of an own slice. -/
def OwnCells (w : World) (v : Value) (n : Nat) (vals : List Value) (sz : Nat) (Bs : List Nat) (ex : Bool) : Prop :=
  (∃ A, v = .slice A 0 0 ∧ n = 0 ∧ vals = [] ∧ Bs = []) ∨
  ∃ b c arr T lo hi, v = .slice (some ⟨b, 0, none⟩) n c ∧ w.heap[b]? = some (.cells arr T (lo, hi)) ∧ (∀ k, k < arr.size → ¬ (lo ≤ k ∧ k < hi)) ∧ arr.size = c * sz ∧ n ≤ c ∧ c ≤ capMax ∧
    (ex = true → c = n) ∧ arr.toList.take (n * sz) = vals ∧ Bs = [b]

section
variable {w : World} {L : Nat → Prop} {β : Env}

theorem Rel.ownCells {sz : Nat} {ex : Bool} {xs : List AV} {v : Value} {G : List Nat} (h : Rel w L β (.own sz ex xs) v G) :
    ∃ vals Fs Bs, OwnCells w v xs.length vals sz Bs ex ∧ (∀ x ∈ xs, x.cells.length = sz) ∧ vals.length = xs.length * sz ∧
      (∀ (k : Nat) (x : AV) (u : Value), (flatc xs)[k]? = some x → vals[k]? = some u → Rel w L noEnv x u (Fs k)) ∧ G = Bs ++ foots Fs (flatc xs).length := by
  cases h with
  | ownNil _ _ _ A => exact ⟨[], fun _ => [], [], .inl ⟨A, rfl, rfl, rfl, rfl⟩, by simp, by simp, by simp [flatc], by simp [flatc, foots]⟩
  | own _ _ _ _ b c arr T lo hi Fs hb hfz hs hz hr hc hm he =>
    have hle : xs.length * sz ≤ arr.size := by rw [hs]; exact Nat.mul_le_mul_right _ hc
    refine ⟨arr.toList.take (xs.length * sz), Fs, [b], .inr ⟨b, c, arr, T, lo, hi, rfl, hb, hfz, hs, hc, hm, he, rfl, rfl⟩, hz, by simp; omega, ?_, rfl⟩
    intro k x u hx hu
    refine hr k x u hx ?_
    rw [List.getElem?_take] at hu
    split at hu
    · simpa using hu
    · cases hu

theorem OwnCells.rel {sz n : Nat} {ex : Bool} {xs : List AV} {v : Value} {vals : List Value} {Fs : Nat → List Nat} {Bs : List Nat} (h : OwnCells w v n vals sz Bs ex) (hn : n = xs.length)
    (hz : ∀ x ∈ xs, x.cells.length = sz) (hr : ∀ (k : Nat) (x : AV) (u : Value), (flatc xs)[k]? = some x → vals[k]? = some u → Rel w L noEnv x u (Fs k)) :
    Rel w L β (.own sz ex xs) v (Bs ++ foots Fs (flatc xs).length) := by
  subst hn
  rcases h with ⟨A, rfl, h0, h1, rfl⟩ | ⟨b, c, arr, T, lo, hi, rfl, hb, hfz, hs, hc, hm, he, ht, rfl⟩
  · have : xs = [] := by cases xs; rfl; simp at h0
    subst this
    simp only [flatc, List.flatMap_nil, List.length_nil, foots, List.range_zero, List.append_nil]
    exact .ownNil _ _ _ _
  · have hle : xs.length * sz ≤ arr.size := by rw [hs]; exact Nat.mul_le_mul_right _ hc
    refine .own _ _ _ _ _ _ arr T lo hi Fs hb hfz hs hz (fun k x u hx hu => hr k x u hx ?_) hc hm he
    have hk : k < xs.length * sz := by rw [← flatc_length hz]; exact (List.getElem?_eq_some_iff.1 hx).1
    rw [← ht, List.getElem?_take, if_pos hk]
    simpa using hu

theorem zero_run' {P : Program} {t : TypeId} {i : TI} (h : TyOk P t i) : ∃ j z, P.info? t = some j ∧ j.zero = some z ∧ j.size = i.sz ∧ j.bytes = i.by' ∧ z.cells.toList = i.zero := by
  obtain ⟨j, hj, he⟩ := Option.map_eq_some_iff.1 h.info
  simp only [Prod.mk.injEq] at he
  obtain ⟨z, hz, hc⟩ := Option.map_eq_some_iff.1 he.2.2
  exact ⟨j, z, hj, hz, he.1, he.2.1, hc⟩

theorem append_run {P : Program} {t u ty e : TypeId} {ti : TI} {du : TypeDesc} (ht : P.underlying t = some (.slice e)) (hu : P.underlying u = some du) (hdu : ∀ k, du ≠ .int k) (hte : TyOk P e ti)
    (hzl : ti.zero.length = ti.sz) {s x : Value} {n m : Nat} {vals news : List Value} {Bs : List Nat} {ex : Bool} (ho : OwnCells w s n vals ti.sz Bs ex)
    (hlen : ∀ w', (Builtin.lenOf x).run P w' = .ok m w') (hnews : ∀ w', w'.heap = w.heap → (Builtin.firstCells ti.sz m x).run P w' = .ok news.toArray w')
    (hl : news.length = m * ti.sz) (h1 : ∀ c ∈ news, c.oneCell' = true) (hb : (n + m) * ti.by' ≤ 140737488355328) (hn : n + m ≤ capMax) :
    ∃ v' w' Bs', (Builtin.append_ #[t, u] ty #[s, x]).run P w = .ok v' w' ∧ OwnCells w' v' (n + m) (vals ++ news) ti.sz Bs' false ∧ Kp Bs w w' ∧ (Bs' = Bs ∨ ∃ b, Bs' = [b] ∧ w.heap.size ≤ b) := by
  obtain ⟨j, z, hj, hz, hjs, hjb, hzc⟩ := zero_run' hte
  have hzero : ((do pure ((← underlying u) matches .int _) : Sem Bool)).run P w = .ok false w := by
    simp only [Sem.run_bind, run_underlying hu, Result.andThen_ok]
    cases du <;> first | rfl | exact absurd rfl (hdu _)
  have hzero' : (match du with | .int _ => true | _ => false) = false := by cases du <;> first | rfl | exact absurd rfl (hdu _)
  have hvl : vals.length = n * ti.sz := by
    rcases ho with ⟨A, rfl, rfl, rfl, _⟩ | ⟨b, c, arr, T, lo, hi, rfl, hbb, hfz, hs, hc, hm, he, htk, _⟩
    · simp
    · rw [← htk, List.length_take, Array.length_toList, hs]; exact Nat.min_eq_left (Nat.mul_le_mul_right _ hc)
  have hzsz : z.cells.size = ti.sz := by rw [← hzl, ← hzc]; simp
  -- a new row
  have grow : ∀ (old cap : Nat) (olds : List Value) (base : Option Addr), s = .slice base n old → vals = olds → old < n + m →
      (∀ w', w'.heap = w.heap → (Builtin.firstCells ti.sz n s).run P w' = .ok olds.toArray w') →
      ∃ v' w' Bs', (Builtin.append_ #[t, u] ty #[s, x]).run P w = .ok v' w' ∧ OwnCells w' v' (n + m) (vals ++ news) ti.sz Bs' false ∧ Kp Bs w w' ∧ (Bs' = Bs ∨ ∃ b, Bs' = [b] ∧ w.heap.size ≤ b) := by
    rintro old cap olds base rfl rfl ho' hfo
    have h1' : ¬ (n + m ≤ old) := by omega
    have h63 : ¬ (9223372036854775807 < ((n : Int) + (m : Int))) := by simp only [capMax] at hn; omega
    have hfit := growslice_fits (bytes := ti.by') ho' hb
    have h48 : ¬ (281474976710656 < Builtin.nextslicecap (n + m) old * ti.by') := by omega
    have hf := hnews w.drew rfl
    have hfo := hfo w.drew rfl
    have hcap := grownCap_ge w (n + m) old e
    have hcm := grownCap_le_maxLen w (n + m) old e (by simpa [maxLen, capMax] using hn)
    refine ⟨.slice (some ⟨w.heap.size, 0, none⟩) (n + m) (grownCap w (n + m) old e),
      w.drew.alloc (.cells (vals.toArray ++ news.toArray ++ Builtin.zeroCells z.cells (grownCap w (n + m) old e - (n + m))) e), [w.heap.size], ?_, ?_, ?_, .inr ⟨_, rfl, Nat.le_refl _⟩⟩
    · simp [Builtin.append_, run_underlying ht, run_underlying hu, hzero', sizeOf, typeInfo, zeroValue, hj, hz, hjs, hjb, hlen, h1', h63, h48, Question.forced, hf, hfo, newRow, grownCap]
      congr 2
      apply Array.ext'
      simp
    · refine .inr ⟨w.heap.size, grownCap w (n + m) old e, _, e, 0, 0, rfl, heap_alloc_new w.drew _, by intro k _ h; omega, ?_, hcap, by simpa [maxLen, capMax] using hcm, (fun h => by cases h), ?_, rfl⟩
      · simp only [Array.size_append, List.size_toArray, size_zeroCells, hzsz, hvl, hl, ← Nat.add_mul]
        congr 1
        omega
      · simp only [Array.toList_append]
        rw [show (n + m) * ti.sz = (vals ++ news).length by rw [List.length_append, hvl, hl, Nat.add_mul]]
        exact List.take_left
    · exact ⟨rfl, rfl, rfl, by simp, fun k hk _ => Below.heap_alloc w.drew _ k hk⟩
  rcases ho with ⟨A, rfl, rfl, rfl, rfl⟩ | ⟨b, c, arr, T, lo, hi, rfl, hbb, hfz, hs, hc, hm, he, htk, rfl⟩
  · by_cases hm0 : m = 0
    · subst hm0
      have hnn : news = [] := List.eq_nil_of_length_eq_zero (by simpa using hl)
      subst hnn
      have hf := hnews w rfl
      refine ⟨.slice A 0 0, w, [], ?_, .inl ⟨A, rfl, rfl, rfl, rfl⟩, Kp.refl _ _, .inl rfl⟩
      cases A with
      | none => simp [Builtin.append_, run_underlying ht, run_underlying hu, hzero', sizeOf, typeInfo, hj, hjs, hlen, hf]
      | some a => simp [Builtin.append_, run_underlying ht, run_underlying hu, hzero', sizeOf, typeInfo, hj, hjs, hlen, hf, storeCells]
    · refine grow 0 0 [] A rfl rfl (by omega) fun w' _ => ?_
      cases A with
      | none => rfl
      | some a => simp [Builtin.firstCells, loadCells, loadCellsFrom]
  · by_cases hroom : n + m ≤ c
    · have hf := hnews w rfl
      have hfit : n * ti.sz + news.length ≤ arr.size := by rw [hl, hs, ← Nat.add_mul]; exact Nat.mul_le_mul_right _ hroom
      have hst := run_storeCells_cells (P := P) b (n * ti.sz) news 0 w (fun k hk => by
        have hk' : n * ti.sz + 0 + k < arr.size := by omega
        simp only [World.cell?, hbb]
        simp only [Option.isSome_none, Bool.false_eq_true, if_false]
        rw [Array.getElem?_eq_getElem hk']; rfl) (fun k hk => by
        have := hfz (n * ti.sz + 0 + k) (by omega)
        simp only [World.frozen?, hbb]
        simp only [Bool.and_eq_false_iff, decide_eq_false_iff_not]
        omega) h1
      simp only [Nat.add_zero] at hst
      refine ⟨.slice (some ⟨b, 0, none⟩) (n + m) c, w.setCells b (n * ti.sz) news, [b], ?_, .inr ⟨b, c, _, T, lo, hi, rfl, heap_setCells b T (lo, hi) _ _ _ _ hbb, by rw [size_arrSet]; exact hfz, by rw [size_arrSet]; exact hs, hroom, hm, (fun h => by cases h), ?_, rfl⟩, kp_setCells b _ _ _, .inl rfl⟩
      · simp [Builtin.append_, run_underlying ht, run_underlying hu, hzero', sizeOf, typeInfo, hj, hjs, hlen, hroom, hf, addr_add, hst]
      · refine List.ext_getElem? fun k => ?_
        rw [List.getElem?_take]
        by_cases hk : k < (n + m) * ti.sz
        · rw [if_pos hk]
          have hga := get_arrSet arr (n * ti.sz) news hfit k
          rw [Array.getElem?_toList, hga]
          rw [Nat.add_mul] at hk
          by_cases hk2 : k < n * ti.sz
          · rw [if_neg (by omega), List.getElem?_append_left (by omega), ← htk, List.getElem?_take, if_pos hk2]
            simp
          · rw [if_pos (by omega), List.getElem?_append_right (by omega), hvl]
        · rw [if_neg hk]
          symm
          rw [List.getElem?_eq_none_iff, List.length_append, hvl, hl, ← Nat.add_mul]
          omega
    · refine grow c c vals (some ⟨b, 0, none⟩) rfl rfl (by omega) fun w' hw' => ?_
      refine run_firstCells_some (P := P) w' ti.sz n ⟨b, 0, none⟩ n c vals hvl fun k v hk => ?_
      rw [addr_add]
      rw [← htk, List.getElem?_take] at hk
      split at hk
      · simp [World.cell?, hw', hbb]; simpa using hk
      · cases hk

theorem flatc_append (xs ys : List AV) : flatc (xs ++ ys) = flatc xs ++ flatc ys := by simp [flatc]

end

section
variable {X : Fx} {g : Gx} {st : St} {a : Act} {w w' : World} {β : Env} {F : Key → List Nat} {L : Nat → Prop} {k : List Item}
variable {ops : Array Oper} {i : Nat} {rest : List Nat} {o : Oper}

/-- An own slice has been made (or has grown): what is known behind it. -/
theorem Inv.made (h : Inv X g st a w β F L) {d sz n : Nat} {ex : Bool} {zs : List AV} {v : Value} {vals : List Value} {Hs : Nat → List Nat} {Bs Bs' : List Nat}
    (hFL : ∀ k b, b ∈ F k → L b) (hL0 : ∀ b, g.L0 b → L b) (hk : Kp Bs w w') (hBs : ∀ b ∈ Bs, L b ∧ (∀ k, b ∉ F k) ∧ (b ∈ g.F0 ∨ g.w0.heap.size ≤ b))
    (hB' : Bs' = Bs ∨ ∃ b, Bs' = [b] ∧ w.heap.size ≤ b) (hBn : Bs.Nodup)
    (ho : OwnCells w' v n vals sz Bs' ex) (hn : n = zs.length) (hz : ∀ x ∈ zs, x.cells.length = sz)
    (hr : ∀ (k : Nat) (x : AV) (u : Value), (flatc zs)[k]? = some x → vals[k]? = some u → Rel w L noEnv x u (Hs k))
    (hHn : (foots Hs (flatc zs).length).Nodup) (hH : ∀ b ∈ foots Hs (flatc zs).length, L b ∧ b ∉ Bs ∧ (∀ k, b ∉ F k) ∧ (b ∈ g.F0 ∨ g.w0.heap.size ≤ b) ∧ b < w.heap.size)
    (hd : d < X.fn.ntmps) (hp : d ∉ X.pins) : SR X g (st.put d (.own sz ex zs)) (a.put (some d) v) w' := by
  let L2 : Nat → Prop := fun b => L b ∨ b ∈ Bs'
  have hnew : ∀ b ∈ Bs', b ∈ Bs ∨ w.heap.size ≤ b := by
    intro b hb
    rcases hB' with rfl | ⟨c, rfl, hc⟩
    · exact .inl hb
    · simp at hb; subst hb; exact .inr hc
  have hLL : ∀ b, b < w.heap.size → L2 b → L b := by
    rintro b hb (h | h)
    · exact h
    · rcases hnew b h with h | h
      · exact (hBs b h).1
      · omega
  have hw : ∀ b, b < w.heap.size → ¬ (b ∈ Bs) → w'.heap[b]? = w.heap[b]? := hk.block
  have h1 : Inv X g st a w' β F L2 := h.world (M := fun b => b ∈ Bs) (h.kp.trans hk (fun b hb => (hBs b hb).2.2)) hw (fun b hb => (hBs b hb).1) hLL (fun k b hb hb' => (hBs b hb').2.1 k hb)
  have hB'n : Bs'.Nodup := by rcases hB' with rfl | ⟨c, rfl, _⟩; exact hBn; simp
  have hR : Rel w' L2 β (.own sz ex zs) v (Bs' ++ foots Hs (flatc zs).length) := ho.rel hn hz fun k x u hx hu =>
    (hr k x u hx hu).keep hw (fun b hb => (hBs b hb).1) hLL fun b hb => (hH b (foots_sub (List.getElem?_eq_some_iff.1 hx).1 hb)).2.1
  have hnd : (Bs' ++ foots Hs (flatc zs).length).Nodup := by
    rw [List.nodup_append]
    refine ⟨hB'n, hHn, ?_⟩
    rintro b hb c hc rfl
    rcases hnew b hb with h | h
    · exact (hH b hc).2.1 h
    · have := (hH b hc).2.2.2.2; omega
  have h2 := h1.put hd hp hR hnd (by
    intro k _ b hb hb'
    rcases List.mem_append.1 hb with hb | hb
    · rcases hnew b hb with h' | h'
      · exact (hBs b h').2.1 k hb'
      · have := h.lt k b hb'; omega
    · exact (hH b hb).2.2.1 k hb') (by
    intro b hb
    rcases List.mem_append.1 hb with hb | hb
    · rcases hnew b hb with h' | h'
      · exact (hBs b h').2.2
      · exact .inr (Nat.le_trans h.kp.size h')
    · exact (hH b hb).2.2.2.1)
  refine ⟨_, _, h2.setL fun b _ hb => ?_⟩
  refine Lv_sub (L := L2) hb (fun k hk => ?_) (fun h => .inl (hL0 b h))
  by_cases e : k = .s d
  · subst e
    rw [updF_same] at hk
    rcases List.mem_append.1 hk with hk | hk
    · exact .inr hk
    · exact .inl (hH b hk).1
  · rw [updF_ne _ e] at hk; exact .inl (hFL k b hk)

def zel (ti : TI) : AV := bif isAggD ti.ud then .agg (ti.zero.map .lit) else match ti.zero with
  | [v] => .lit v
  | _ => .top

theorem make_run {P : Program} {t e : TypeId} {j : TypeInfo} {z : Value} {N : Int} {kk kk' : IntKind} (hs : (underlying t).run P w = .ok (.slice e) w) (hj : P.info? e = some j) (hz0 : j.zero = some z)
    (hN : IntKind.i64.wrap N = N) (h0 : 0 ≤ N) (hb : (j.bytes : Int) * N ≤ 281474976710656) :
    (Instr.makeSlice t (.int kk N) (.int kk' N)).run P w = .ok (.slice (some ⟨w.heap.size, 0, none⟩) N.toNat N.toNat) (w.alloc (.cells ((Array.range (N.toNat * j.size)).map (z.cells[· % z.cells.size]!)) e)) := by
  have hn0 : ¬ (N < 0) := by omega
  have hb' : ¬ (281474976710656 < (j.bytes : Int) * N) := by omega
  by_cases hn00 : N.toNat * j.size = 0
  · have hr0 : ∀ f : Nat → Value, (Array.range 0).map f = #[] := fun f => Array.eq_empty_of_size_eq_zero (by simp)
    rcases Nat.mul_eq_zero.1 hn00 with h | h
    · have h3 : N ≤ 0 := by omega
      simp [Instr.makeSlice, hs, asInt, asIntOf, typeInfo, hj, hN, sizeOf, hn0, hb', newRow, h, h3]
      rw [hr0, hr0]
    · simp [Instr.makeSlice, hs, asInt, asIntOf, typeInfo, hj, hN, sizeOf, hn0, hb', newRow, h]
      rw [hr0, hr0]
  · simp only [Instr.makeSlice, Sem.run_bind, hs, Result.andThen_ok, asInt, asIntOf, Sem.run_pure, typeInfo, run_program, hj, hN, sizeOf]
    have h1 : ¬ N.toNat = 0 := fun h => hn00 (by rw [h, Nat.zero_mul])
    have h2 : ¬ j.size = 0 := fun h => hn00 (by rw [h, Nat.mul_zero])
    have h3 : ¬ N ≤ 0 := by omega
    simp [hn0, hb', newRow, hn00, h1, h2, h3, zeroValue, typeInfo, hj, hz0]

/-- 'make' of a slice. -/
theorem Run.make {d t e : Nat} {ti : TI} {x y : Operand} {kk kk' : IntKind} {n : Nat} (ho : ops[i]? = some o) (hg : guardOf ops st o = some true) (hd : o.dst = some d)
    (hop : o.op = .makeSlice t x y) (hT : sliceAt X.T t = some (e, ti)) (hx : st.ev x = .lit (.int kk (n : Int))) (hy : st.ev y = .lit (.int kk' (n : Int)))
    (hz : (zel ti).cells = ti.zero.map .lit) (hzl : Nat.beq ti.zero.length ti.sz = true) (hpos : Nat.blt 0 ti.sz = true) (hn : n ≤ 140737488355328) (hb : n * ti.by' ≤ 281474976710656)
    (hdn : (Nat.blt d X.fn.ntmps && !(X.pins.contains d)) = true)
    (h : Run X g (.inRegion ops rest :: k) (st.put d (.own ti.sz true (List.replicate n (zel ti))))) : Run X g (.inRegion ops (i :: rest) :: k) st := by
  simp only [Bool.and_eq_true, Bool.not_eq_true'] at hdn
  refine Run.op ho (fun a w hI => guardOf_ok hg a w hI) ?_ h
  rintro hX a w ⟨β, F, hI⟩
  obtain ⟨i', h1, h2, h3⟩ := sliceAt_ok hX hT
  obtain ⟨j, z, hj, hz0, hjs, hjb, hzc⟩ := zero_run' h3
  have hzl' := Nat.eq_of_beq_eq_true hzl
  have hpos' := blt_lt hpos
  have hs := un_run h1 w
  rw [h2] at hs
  have hw1 : IntKind.i64.wrap (n : Int) = n := by
    have e : IntKind.i64.wrap (n : Int) = if (n : Int) % 18446744073709551616 ≥ 9223372036854775808 then (n : Int) % 18446744073709551616 - 18446744073709551616 else (n : Int) % 18446744073709551616 := by
      simp [IntKind.wrap, IntKind.bits, IntKind.signed]
    rw [e]; split <;> omega
  have hbi : (j.bytes : Int) * (n : Int) ≤ 281474976710656 := by
    rw [hjb]
    rw [Nat.mul_comm] at hb
    have h2 : ((ti.by' * n : Nat) : Int) ≤ ((281474976710656 : Nat) : Int) := Int.ofNat_le.2 hb
    rw [Int.natCast_mul] at h2
    exact h2
  let arr : Array Value := (Array.range (n * ti.sz)).map (z.cells[· % z.cells.size]!)
  have harr : arr.size = n * ti.sz := by simp [arr]
  have hzsz : z.cells.size = ti.sz := by rw [← hzl', ← hzc]; simp
  have hrun : (execOp a.eval o).run X.P w = .ok (.value (.slice (some ⟨w.heap.size, 0, none⟩) n n)) (w.alloc (.cells arr e)) := by
    have := make_run (kk := kk) (kk' := kk') hs hj hz0 hw1 (by omega) hbi
    rw [hjs] at this
    simp only [execOp, hop, ev_lit hI hx, ev_lit hI hy, Sem.run_bind, this, Result.andThen_ok]
    rfl
  refine ⟨_, _, .inl hrun, ?_⟩
  rw [hd]
  have hlen : (flatc (List.replicate n (zel ti))).length = n * ti.sz := by
    rw [flatc_length (sz := ti.sz)]
    · simp
    · intro x hx; rw [(List.mem_replicate.1 hx).2, hz]; simpa using hzl'
  refine hI.made (L := Lv g F) (n := n) (vals := arr.toList) (Hs := fun _ => []) (Bs := []) (Bs' := [w.heap.size]) (fun k b hb => Lv_of hb) (fun b hb => .inl hb) (Kp.alloc _ _ _) (by simp) (.inr ⟨_, rfl, Nat.le_refl _⟩) (by simp) ?_ (by simp) ?_ ?_ ?_ ?_ (blt_lt hdn.1) (contains_iff hdn.2)
  · exact .inr ⟨w.heap.size, n, arr, e, 0, 0, rfl, heap_alloc_new w _, by intro k _ h; omega, harr, Nat.le_refl _, by simp only [capMax]; omega, fun _ => rfl, by rw [← harr, ← Array.length_toList, List.take_length], rfl⟩
  · intro x hx; rw [(List.mem_replicate.1 hx).2, hz]; simpa using hzl'
  · intro k x u hx hu
    have hk : k < n * ti.sz := by rw [← hlen]; exact (List.getElem?_eq_some_iff.1 hx).1
    have hel : ∃ q r, k = q * ti.sz + r ∧ r < ti.sz ∧ q < n := ⟨k / ti.sz, k % ti.sz, by rw [Nat.mul_comm]; exact (Nat.div_add_mod _ _).symm, Nat.mod_lt _ hpos', Nat.div_lt_of_lt_mul (by rw [Nat.mul_comm]; exact hk)⟩
    obtain ⟨q, r, rfl, hr, hq⟩ := hel
    have hxr : (flatc (List.replicate n (zel ti)))[q * ti.sz + r]? = (zel ti).cells[r]? :=
      elem_cells (sz := ti.sz) (by intro x hx; rw [(List.mem_replicate.1 hx).2, hz]; simpa using hzl') (by simp [hq]) r hr
    rw [hxr, hz, List.getElem?_map] at hx
    obtain ⟨zv, hzv, rfl⟩ := Option.map_eq_some_iff.1 hx
    have hu' : arr[q * ti.sz + r]? = some u := by simpa using hu
    have : (q * ti.sz + r) % z.cells.size = r := by rw [hzsz, Nat.mul_comm, Nat.mul_add_mod, Nat.mod_eq_of_lt hr]
    simp only [arr, Array.getElem?_map, Array.getElem?_range] at hu'
    rw [if_pos hk] at hu'
    simp only [Option.map_some, Option.some.injEq, this] at hu'
    have hzv' : z.cells[r]? = some zv := by rw [← hzc] at hzv; simpa using hzv
    rw [getElem!_def, hzv'] at hu'
    subst hu'
    exact .lit _ _
  · rw [foots_nil (fun _ _ => rfl)]; simp
  · rw [foots_nil (fun _ _ => rfl)]; simp

/-! ### Stores into an own slice -/

/-- An element, its cells put anew. -/
def reb (y : AV) (cs : List AV) : AV :=
  match y with
  | .agg _ => .agg cs
  | _ => match cs with
    | [c] => c
    | _ => .top

theorem flatc_set {xs : List AV} {sz m : Nat} {y z : AV} (hz : ∀ x ∈ xs, x.cells.length = sz) (hy : xs[m]? = some y) (hzl : z.cells.length = sz) (k : Nat) :
    (flatc (xs.set m z))[k]? = if m * sz ≤ k ∧ k < m * sz + sz then z.cells[k - m * sz]? else (flatc xs)[k]? := by
  have hm : m < xs.length := (List.getElem?_eq_some_iff.1 hy).1
  have e1 : xs.set m z = xs.take m ++ [z] ++ xs.drop (m + 1) := by
    rw [List.set_eq_take_append_cons_drop, if_pos hm]; simp
  have e2 : xs = xs.take m ++ [y] ++ xs.drop (m + 1) := by
    have := List.take_append_drop m xs
    rw [List.drop_eq_getElem_cons hm] at this
    have hy' : xs[m] = y := by rw [List.getElem?_eq_getElem hm] at hy; exact Option.some.inj hy
    rw [hy'] at this
    rw [List.append_assoc]
    exact this.symm
  have l1 : (flatc (xs.take m)).length = m * sz := by
    rw [flatc_length fun x hx => hz x (List.mem_of_mem_take hx), List.length_take, Nat.min_eq_left (by omega)]
  have hyl : y.cells.length = sz := hz y (List.mem_of_getElem? hy)
  have f1 : flatc [z] = z.cells := by simp [flatc]
  have f2 : flatc [y] = y.cells := by simp [flatc]
  have e3 : flatc (xs.set m z) = flatc (xs.take m) ++ z.cells ++ flatc (xs.drop (m + 1)) := by rw [e1, flatc_append, flatc_append, f1]
  have e4 : flatc xs = flatc (xs.take m) ++ y.cells ++ flatc (xs.drop (m + 1)) := by
    conv => lhs; rw [e2]
    rw [flatc_append, flatc_append, f2]
  rw [e3, e4]
  by_cases h1 : k < m * sz
  · rw [if_neg (by omega), List.append_assoc, List.append_assoc, List.getElem?_append_left (by omega), List.getElem?_append_left (by omega)]
  · by_cases h2 : k < m * sz + sz
    · rw [if_pos (by omega), List.getElem?_append_left (by simp; omega), List.getElem?_append_right (by omega), l1]
    · rw [if_neg (by omega), List.getElem?_append_right (by simp; omega), List.getElem?_append_right (by simp; omega)]
      congr 1
      simp [hzl, hyl]

/-- A store of a value that owns nothing into an element of an own slice. -/
theorem SR.storee {t : TypeId} {i : TI} {p x : Operand} {id : Id} {m j sz : Nat} {ex : Bool} {xs : List AV} (y : AV) (hX : X.Ok) (hT : X.T t = some i) (hp : st.ev p = .ep id m j) (ho : st.obj id = .vec sz ex xs)
    (hy : xs[m]? = some y) (hx : (st.ev x).okc = true) (hpl : (st.ev x).pl = true) (hfr : (st.ev x).free = true) (hsz : (st.ev x).cells.length = i.sz) (hj : j + i.sz ≤ y.cells.length)
    (hreb : (reb y (putAt y.cells j (st.ev x).cells)).cells = putAt y.cells j (st.ev x).cells) (h : SR X g st a w) :
    ∃ w', (Instr.storeAt t (a.eval p) (a.eval x)).run X.P w = .ok () w' ∧ SR X g (st.setObj id (.vec sz ex (xs.set m (reb y (putAt y.cells j (st.ev x).cells))))) a w' := by
  obtain ⟨β, F, h⟩ := h
  have hR := ev_rel h p (by rw [hp]; rfl)
  rw [hp] at hR
  have hob := h.obj id
  rw [ho] at hob
  obtain ⟨v, hβ, hown⟩ := hob
  have hm : m < xs.length := (List.getElem?_eq_some_iff.1 hy).1
  generalize a.eval p = up at hR
  cases hR with
  | ep _ _ _ _ b n c sz' hβ' =>
  rw [hβ] at hβ'
  cases hβ'
  obtain ⟨arr, T, lo, hi, Fs, hb, hfz, hs, hz, hr, hn, hc, hcm, he, hG⟩ := own_row hown rfl (by intro e; rw [e] at hm; simp at hm)
  subst hn
  obtain ⟨Gs, hl, hG0, hone, hrx⟩ := (ev_rel h x hpl).cells hx
  have hGs : ∀ k, k < (st.ev x).cells.length → Gs k = [] := by
    intro k hk
    cases hg' : Gs k with
    | nil => rfl
    | cons c r => have : c ∈ foots Gs (st.ev x).cells.length := foots_sub hk (by rw [hg']; simp); rw [← hG0] at this; simp at this
  have hyl : y.cells.length = sz := hz y (List.mem_of_getElem? hy)
  have hms : m * sz + sz ≤ arr.size := by rw [hs, ← Nat.succ_mul]; exact Nat.mul_le_mul_right _ (by omega)
  have ht := hX.ty t i hT
  have hrun := store_run (P := X.P) (o := m * sz + j) ht hb hfz (u := a.eval x) (by omega) (by omega) hone
  refine ⟨_, by simpa [Instr.storeAt, Instr.sureAddr] using hrun, ?_⟩
  generalize hus : (a.eval x).cells = us at *
  have hcl : (st.ev x).cells.length = us.size := hl
  have hxfree : ∀ (k : Nat) (z : AV), (st.ev x).cells[k]? = some z → z.free = true := by
    intro k z hz'
    revert hz' hfr
    generalize st.ev x = ex
    intro hfr hz'
    cases ex <;> simp only [AV.cells] at hz' <;> first
      | (cases k with
         | zero => simp at hz'; subst hz'; exact hfr
         | succ k => simp at hz')
      | exact AV.freeL_get (by simpa [AV.free] using hfr) k z hz'
  have hbF : b ∈ F (.o id) := by rw [hG]; simp
  have hbr := h.range _ b hbF
  have hnd := h.sep.nodup (.o id)
  rw [hG] at hnd
  have hb2 : (w.setCells b (m * sz + j) us.toList).heap[b]? = some (.cells (arrSet arr (m * sz + j) us.toList) T (lo, hi)) := heap_setCells b T (lo, hi) _ _ _ _ hb
  let Fs2 : Nat → List Nat := fun k => if m * sz + j ≤ k ∧ k < m * sz + j + i.sz then [] else Fs k
  let y' := reb y (putAt y.cells j (st.ev x).cells)
  have hy'c : y'.cells = putAt y.cells j (st.ev x).cells := hreb
  have hy'l : y'.cells.length = sz := by rw [hy'c, putAt_length _ _ _ (by omega), hyl]
  have hz2 : ∀ x ∈ xs.set m y', x.cells.length = sz := by
    intro z hz'
    rcases List.mem_or_eq_of_mem_set hz' with h' | h'
    · exact hz z h'
    · rw [h']; exact hy'l
  have hlen2 : (flatc (xs.set m y')).length = (flatc xs).length := by rw [flatc_length hz2, flatc_length hz, List.length_set]
  have hsub : ∀ c, c ∈ foots Fs2 (flatc xs).length → c ∈ foots Fs (flatc xs).length := by
    intro c hc
    obtain ⟨k, hk, hc⟩ := mem_foots.1 hc
    simp only [Fs2] at hc
    split at hc
    · simp at hc
    · exact foots_sub hk hc
  have hw : ∀ c, c < w.heap.size → ¬ (c = b) → (w.setCells b (m * sz + j) us.toList).heap[c]? = w.heap[c]? := fun c _ hc => heap_setCells_ne b c hc _ _ _
  have hkeep : ∀ {γ y v G}, Rel w (Lv g F) γ y v G → (∀ c ∈ G, c ≠ b) → Rel (w.setCells b (m * sz + j) us.toList) (Lv g F) γ y v G := fun hr hG =>
    hr.keep hw (fun c hc => by subst hc; exact Lv_of hbF) (fun _ _ h => h) hG
  have h1 : Inv X g (st.setObj id .gone) a w β (updF F (.o id) []) (Lv g F) := h.setOb id .gone rfl (by simp) (by simp) (by simp)
  have h2 : Inv X g (st.setObj id .gone) a (w.setCells b (m * sz + j) us.toList) β (updF F (.o id) []) (Lv g F) := by
    refine h1.world (M := fun c => c = b) (h.kp.trans (kp_setCells b _ _ _) (by simpa using hbr)) hw (fun c hc => by subst hc; exact Lv_of hbF) (fun _ _ h => h) ?_
    rintro k c hc rfl
    by_cases e : k = .o id
    · subst e; rw [updF_same] at hc; simp at hc
    · rw [updF_ne _ e] at hc; exact h.sep.apart _ _ c e hc hbF
  have hrel : Rel (w.setCells b (m * sz + j) us.toList) (Lv g F) β (.own sz ex (xs.set m y')) (.slice (some ⟨b, 0, none⟩) (xs.set m y').length c) (b :: foots Fs2 (flatc (xs.set m y')).length) := by
    refine .own _ _ _ _ _ _ _ T lo hi Fs2 hb2 (by rw [size_arrSet]; exact hfz) (by rw [size_arrSet]; exact hs) hz2 (fun k z u hz' hu => ?_) (by simpa using hc) hcm (by simpa using he)
    rw [flatc_set hz hy hy'l, hy'c] at hz'
    rw [get_arrSet _ _ _ (by simp; omega)] at hu
    simp only [Array.length_toList] at hu
    by_cases hk : m * sz + j ≤ k ∧ k < m * sz + j + i.sz
    · rw [if_pos (by omega)] at hz'
      rw [putAt_get _ _ _ (by omega), if_pos (by omega)] at hz'
      rw [if_pos (by omega)] at hu
      simp only [Fs2, if_pos hk]
      have hkk : k - m * sz - j = k - (m * sz + j) := by omega
      rw [hkk] at hz'
      have := hrx (k - (m * sz + j)) z u hz' (by simpa using hu)
      rw [hGs _ (by omega)] at this
      exact hkeep (this.env noEnv (hxfree _ _ hz')) (by simp)
    · rw [if_neg (by omega)] at hu
      simp only [Fs2, if_neg hk]
      have hz'' : (flatc xs)[k]? = some z := by
        by_cases hk2 : m * sz ≤ k ∧ k < m * sz + sz
        · rw [if_pos hk2, putAt_get _ _ _ (by omega), if_neg (by omega)] at hz'
          have := elem_cells hz hy (k - m * sz) (by omega)
          rw [show m * sz + (k - m * sz) = k by omega] at this
          rw [this]; exact hz'
        · rw [if_neg hk2] at hz'; exact hz'
      refine hkeep (hr k z u hz'' hu) ?_
      rintro c hc rfl
      exact (List.nodup_cons.1 hnd).1 (foots_sub (List.getElem?_eq_some_iff.1 hz'').1 hc)
  rw [List.length_set, hlen2] at hrel
  have h3 := h2.setOb id (.vec sz ex (xs.set m y')) (G := b :: foots Fs2 (flatc xs).length) ⟨_, hβ, hrel⟩ (by
    refine List.nodup_cons.2 ⟨fun hm => (List.nodup_cons.1 hnd).1 (hsub _ hm), ?_⟩
    have := foots_nodup (List.nodup_cons.1 hnd).2
    refine nodup_foots fun k hk => ⟨?_, fun k' hk' hne c hc hc' => ?_⟩
    · simp only [Fs2]; split; simp; exact (this k hk).1
    · simp only [Fs2] at hc hc'
      split at hc
      · simp at hc
      · split at hc'
        · simp at hc'
        · exact (this k hk).2 k' hk' hne c hc hc') (by
    intro k hk c hc hc'
    rw [updF_ne _ hk] at hc'
    refine h.sep.apart _ _ c hk hc' ?_
    rw [hG]
    rcases List.mem_cons.1 hc with rfl | hc
    · simp
    · exact List.mem_cons_of_mem _ (hsub c hc)) (by
    intro c hc
    refine h.range (.o id) c ?_
    rw [hG]
    rcases List.mem_cons.1 hc with rfl | hc
    · simp
    · exact List.mem_cons_of_mem _ (hsub c hc))
  have h4 : SR X g ((st.setObj id .gone).setObj id (.vec sz ex (xs.set m y'))) a (w.setCells b (m * sz + j) us.toList) := by
    refine ⟨_, _, h3.setL fun c _ hc => ?_⟩
    refine Lv_sub hc (fun k hk => ?_) .inl
    by_cases e : k = .o id
    · subst e
      rw [updF_same] at hk
      refine Lv_of (k := .o id) ?_
      rw [hG]
      rcases List.mem_cons.1 hk with rfl | hk
      · simp
      · exact List.mem_cons_of_mem _ (hsub c hk)
    · rw [updF_ne _ e, updF_ne _ e] at hk; exact Lv_of hk
  have hle : St.Le (st.setObj id (.vec sz ex (xs.set m y'))) ((st.setObj id .gone).setObj id (.vec sz ex (xs.set m y'))) :=
    ⟨fun d => .inr rfl, fun id' => .inr (by
      rw [St.obj_setObj, St.obj_setObj, St.obj_setObj]
      by_cases e : id = id' <;> simp [e])⟩
  exact h4.le hle

/-- .. as a step. -/
theorem Run.storee {t : TypeId} {ti : TI} {p x : Operand} {id : Id} {m j sz : Nat} {ex : Bool} {xs : List AV} (y y' : AV) (ho : ops[i]? = some o) (hg : guardOf ops st o = some true) (hd : o.dst = none)
    (hop : o.op = .store t p x) (hT : X.T t = some ti) (hp : st.ev p = .ep id m j) (hob : st.obj id = .vec sz ex xs) (hy : xs[m]? = some y)
    (hc : ((st.ev x).okc && (st.ev x).pl && (st.ev x).free && Nat.beq (st.ev x).cells.length ti.sz && Nat.ble (j + ti.sz) y.cells.length) = true)
    (hreb : (reb y (putAt y.cells j (st.ev x).cells)).cells = putAt y.cells j (st.ev x).cells) (hy' : reb y (putAt y.cells j (st.ev x).cells) = y')
    (h : Run X g (.inRegion ops rest :: k) (st.setObj id (.vec sz ex (xs.set m y')))) : Run X g (.inRegion ops (i :: rest) :: k) st := by
  subst hy'
  simp only [Bool.and_eq_true] at hc
  obtain ⟨⟨⟨⟨h1, h2⟩, h3⟩, h4⟩, h5⟩ := hc
  refine Run.op ho (fun a w hI => guardOf_ok hg a w hI) ?_ h
  intro hX a w hI
  obtain ⟨w', hu, hI'⟩ := hI.storee y hX hT hp hob hy h1 h2 h3 (Nat.eq_of_beq_eq_true h4) (Nat.le_of_ble_eq_true h5) hreb
  refine ⟨undef, w', .inr ⟨?_, rfl⟩, by rw [hd]; exact hI'⟩
  simp [execOp, hop, hu]

end
end Go.Av
