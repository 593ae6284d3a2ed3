/- Contracts of the program's functions, and what follows from them. -/
import Derived.Test.YtcfkdcjindhnjaaK59
import Derived.Test.YtcfkdcjindhnjaaMH
set_option linter.unusedVariables false
set_option maxRecDepth 100000
set_option linter.unusedSimpArgs false
namespace Go.Proofs.Ytcfkdcjindhnjaa
open Go Go.Av

/-! slices.Sorted of slices.Values, for lists of at most sixty numbers. -/

/-! ### The iterator -/

def vlI (l : List Int) : List Value := l.map fun n => .int .i64 n
/-- The box with the slice, and what lies in the slice. -/
def VlR (c0 q0 : Nat) (A : Option Addr) (c b o : Nat) (l : List Int) (w : World) : Prop := RowAt w c0 q0 [.slice A l.length c] ∧ (l ≠ [] → RowAt w b o (vlI l))
def vlFn (c0 q0 : Nat) : Value := .func (.func 31) #[] #[.pointer (some ⟨c0, q0, none⟩)]

noncomputable def X15 : Fx := ⟨Try.prog, tys, 15, Try.f15, []⟩
theorem X15_ok : X15.Ok := ⟨Try.func15, tys_ok⟩
theorem values_ct (l : List Int) (ex : Bool) : Ct Try.prog 15 [.ro 1 ex (l.map i64)] (.fn 31 [.rp [.ro 1 ex (l.map i64)] 0]) [] := by
  refine Ct.intro X15 X15_ok rfl (by kernel_rfl) rfl rfl fun g hg => ?_
  iterate 3 (refine Run.go rfl ?_)
  refine Run.freezeBox (cs := [.ro 1 ex (l.map i64)]) 1 (1, 0) [.ro 1 ex (l.map i64)] rfl rfl rfl rfl ?_
  repeat (refine Run.go rfl ?_)
  exact Run.ret hg rfl rfl

noncomputable def X31 : Fx := ⟨Try.prog, tys, 31, Try.f31, []⟩
theorem X31_ok : X31.Ok := ⟨Try.func31, tys_ok⟩
theorem values1_seq (l : List Int) (hl : l.length ≤ 1000) (c0 q0 : Nat) (A : Option Addr) (c b o : Nat) (hA : l ≠ [] → A = some ⟨b, o, none⟩) :
    SeqOkR Try.prog 31 #[.pointer (some ⟨c0, q0, none⟩)] (VlR c0 q0 A c b o l) (vlI l) := by
  refine SeqOkR.intro X31 X31_ok rfl (lb := [.pointer (some ⟨c0, q0, none⟩)]) rfl rfl fun g l' J Jx ms hR hx hall hcov hp => ?_
  have hvl : (vlI l).length = l.length := List.length_map ..
  repeat (refine Run.go rfl ?_)
  refine Run.val rfl rfl rfl (ValOk.loadJ (q := q0) (j := 0) (vals := [.slice A l.length c]) (0, 0) (0, 1) hcov (hx.keep 0) rfl rfl rfl (fun w h => (hR 0 w h).1) rfl rfl rfl rfl) rfl ?_
  repeat (refine Run.go rfl ?_)
  refine Run.loop (fun q : Nat × List (Nat × Obj) => ⟨[(0, .lit (.func (.yield l') #[] #[])), (5, .lit (.slice A l.length c)), (6, i64 l.length), (7, i64 (q.1 : Nat))], [((0, 0), .mem []), ((0, 1), .mem q.2)]⟩)
    (fun q => q.1 ≤ l.length ∧ Cov g [] (J q.1) q.2) (fun q => l.length - q.1) (0, ms) ⟨Nat.zero_le _, hcov⟩ ?_ ?_
  · exact St.Le.mk' ⟨rfl, rfl, rfl, rfl, trivial⟩ ⟨rfl, rfl, trivial⟩
  clear hcov
  rintro ⟨n, ms⟩ ⟨hn, hcov⟩ IH
  simp only at hn hcov ⊢
  repeat (refine Run.go rfl ?_)
  refine Run.cond rfl (fun h => ?_) (fun h => ?_)
  · have hlt : n < l.length := by have := of_decide_eq_true h; omega
    have hne : l ≠ [] := by intro e; rw [e] at hlt; simp at hlt
    have hAe := hA hne
    subst hAe
    have hxv : (vlI l)[n]? = some (.int .i64 l[n]) := by simp [vlI, hlt]
    repeat (refine Run.go rfl ?_)
    refine Run.val rfl rfl rfl (ValOk.idxL rfl rfl rfl rfl (by omega) (by omega)) rfl ?_
    refine Run.val rfl rfl rfl (ValOk.loadJ (q := o) (vals := vlI l) (v := i64 l[n]) (0, 0) (0, 1) hcov (hx.keep n) rfl rfl rfl (fun w h => (hR n w h).2 hne) rfl rfl rfl (by
      show (match ((vlI l).map AV.lit)[(n : Int).toNat * 1]? with | some x => plain x | none => none) = _
      rw [Int.toNat_natCast, Nat.mul_one, List.getElem?_map, hxv]
      rfl)) rfl ?_
    repeat (refine Run.go rfl ?_)
    refine Run.yield (0, 0) (0, 1) hx hall rfl rfl rfl rfl rfl rfl hxv rfl rfl rfl (by decide) hcov ⟨rfl, rfl⟩ rfl (fun ms' hc => ?_) (fun ms' hc => ?_)
    · repeat (refine Run.go rfl ?_)
      refine Run.cond rfl (fun h => by cases h) (fun h => ?_)
      repeat (refine Run.go rfl ?_)
      refine Run.of (IH (n + 1, ms') ⟨by show n + 1 ≤ _; omega, hc⟩ (by show l.length - (n + 1) < l.length - n; omega)) ⟨rfl, rfl, rfl, ?_, trivial⟩ ⟨rfl, rfl, trivial⟩
      show i64 _ = _
      rw [wrap_i64 (by omega) (by omega)]
      rfl
    · repeat (refine Run.go rfl ?_)
      refine Run.cond rfl (fun h => ?_) (fun h => by cases h)
      exact Run.retI (0, 0) (0, 1) hp rfl hx rfl rfl rfl (.inr hc)
  · have hj' : n = l.length := by have := of_decide_eq_false h; omega
    subst hj'
    repeat (refine Run.go rfl ?_)
    exact Run.endI (0, 0) (0, 1) hp rfl hx rfl rfl rfl (.inl (by rw [hvl]; exact hcov))

/-! ### What is collected -/

theorem flatc_i64 : ∀ l : List Int, flatc (l.map i64) = l.map i64
  | [] => rfl
  | x :: l => by show i64 x :: flatc (l.map i64) = _; rw [flatc_i64 l]; rfl

/-- The iterator's value, as it is. -/
theorem fn_slice {w : World} {L : Nat → Prop} {β : Env} {f : FuncId} {l : List Int} {ex : Bool} {v : Value} {G : List Nat} (h : Rel w L β (.fn f [.rp [.ro 1 ex (l.map i64)] 0]) v G) :
    G = [] ∧ ∃ c0 q0 A c b o, v = .func (.func f) #[] #[.pointer (some ⟨c0, q0, none⟩)] ∧ (l ≠ [] → A = some ⟨b, o, none⟩) ∧ RowAt w c0 q0 [.slice A l.length c] ∧ (l ≠ [] → RowAt w b o (vlI l)) := by
  cases h with
  | fn _ _ _ vals hl hr =>
    refine ⟨rfl, ?_⟩
    have hsz : vals.size = 1 := by simpa using hl.symm
    obtain ⟨p, rfl⟩ : ∃ p, vals = #[p] := ⟨vals[0], by
      apply Array.ext
      · simpa using hsz
      · intro i h1 h2
        have : i = 0 := by omega
        subst this
        rfl⟩
    have h0 := hr 0 _ p rfl rfl
    generalize hG : ([] : List Nat) = G0 at h0
    cases h0 with
    | rp _ _ _ c0 q0 vs hL hl2 hrow hr2 =>
      obtain ⟨u, rfl⟩ : ∃ u, vs = [u] := by
        match vs, hl2 with
        | [u], _ => exact ⟨u, rfl⟩
      have h1 := hr2 0 _ u rfl rfl
      generalize hxs : l.map i64 = xs at h1
      have hlen : l.length = xs.length := by rw [← hxs, List.length_map]
      generalize hG1 : ([] : List Nat) = G1 at h1
      cases h1 with
      | roNil _ _ _ A c hc he =>
        have hl0 : l = [] := List.map_eq_nil_iff.1 hxs
        subst hl0
        exact ⟨c0, q0, A, c, 0, 0, rfl, fun h => absurd rfl h, hrow, fun h => absurd rfl h⟩
      | ro _ _ _ _ b o c vals hL2 hz hl3 hrow3 hr3 hc hm he =>
        have hv : vals = vlI l := by
          subst hxs
          rw [flatc_i64 l] at hl3 hr3
          refine List.ext_getElem? fun k => ?_
          by_cases hk : k < l.length
          · have hk2 : k < vals.length := by rw [← hl3, List.length_map]; exact hk
            have := hr3 k (i64 l[k]) vals[k] (by simp [hk]) (List.getElem?_eq_getElem hk2)
            rw [List.getElem?_eq_getElem hk2]
            have e : vals[k] = .int .i64 l[k] := by
              generalize vals[k] = z at this
              generalize hG2 : ([] : List Nat) = G2 at this
              cases this
              rfl
            rw [e]
            simp [vlI, hk]
          · rw [List.getElem?_eq_none (by rw [← hl3, List.length_map]; omega), List.getElem?_eq_none (by rw [vlI, List.length_map]; omega)]
        rw [← hlen] at hrow
        exact ⟨c0, q0, some ⟨b, o, none⟩, c, b, o, rfl, fun _ => rfl, hrow, fun _ => hv ▸ hrow3⟩

def vlAmb (c0 q0 : Nat) (A : Option Addr) (c b o : Nat) (l : List Int) : Amb where
  n := if l = [] then c0 + 1 else max (c0 + 1) (b + 1)
  holds := VlR c0 q0 A c b o l
  stable := by
    rintro w w' h ⟨h1, h2⟩
    refine ⟨h1.keep fun _ => h c0 ?_, fun hn => (h2 hn).keep fun _ => h b ?_⟩
    · by_cases e : l = []
      · rw [if_pos e]; omega
      · rw [if_neg e]; omega
    · rw [if_neg hn]; omega
theorem vlAmb_on {c0 q0 : Nat} {A : Option Addr} {c b o : Nat} {l : List Int} {w : World} (h1 : RowAt w c0 q0 [.slice A l.length c]) (h2 : l ≠ [] → RowAt w b o (vlI l)) : (vlAmb c0 q0 A c b o l).on w [] := by
  refine ⟨⟨h1, h2⟩, ?_, by simp⟩
  have a1 := h1.lt (by simp)
  show (if l = [] then c0 + 1 else max (c0 + 1) (b + 1)) ≤ _
  by_cases e : l = []
  · rw [if_pos e]; omega
  · have a2 := (h2 e).lt (by simpa [vlI] using e)
    rw [if_neg e]; omega

def apSt (l : List Int) (n : Nat) : St := ⟨[(2, .bp (2, 0) 0)], [((2, 0), .box [.own 1 false ((l.take n).map i64)])]⟩

noncomputable def X37 : Fx := ⟨Try.prog, tys, 37, Try.f37, []⟩
theorem X37_ok : X37.Ok := ⟨Try.func37, tys_ok⟩
theorem appendSeqA_ct (l : List Int) (hl : l.length ≤ 1000) (c0 q0 : Nat) (A : Option Addr) (c b o : Nat) (hA : l ≠ [] → A = some ⟨b, o, none⟩) :
    CtA (vlAmb c0 q0 A c b o l) Try.prog 37 [.lit (.slice none 0 0), .lit (vlFn c0 q0)] (.own 1 false (l.map i64)) [] := by
  refine CtA.intro _ X37 X37_ok rfl (by kernel_rfl) rfl rfl fun g hAm hg => ?_
  have hvl : (vlI l).length = l.length := List.length_map ..
  repeat (refine Run.go rfl ?_)
  refine Run.nilBox (2, 0) 0 1 false rfl rfl ?_
  repeat (refine Run.go rfl ?_)
  refine Run.mem0 (6, 0) rfl ?_
  refine Run.rangeFuncR (6, 0) (99, 9) [2] (apSt l) (apSt l) (fun _ => True) (fun _ => False) (VlR c0 q0 A c b o l) trivial hg (fun w hk => (hAm.keep hk (fun b hb => .inl hb)).1) (values1_seq l hl c0 q0 A c b o hA) (by kernel_rfl) rfl rfl ?_ (fun n => rfl) (fun n => rfl) (fun n => rfl) (fun n => rfl) rfl ?_ ?_ ?_
  · exact St.Le.mk' ⟨rfl, trivial⟩ ⟨rfl, trivial⟩
  · intro n x gr L r _ hx hrs _ hgr
    rw [vlI, List.getElem?_map] at hx
    obtain ⟨z, hz, rfl⟩ := Option.map_eq_some_iff.1 hx
    clear hx
    have hn : n < l.length := (List.getElem?_eq_some_iff.1 hz).1
    have hnext : (l.take (n + 1)).map i64 = (l.take n).map i64 ++ [i64 z] := by
      rw [List.take_add_one, hz]; simp
    have hlenY : ((l.take n).map i64).length ≤ 1000 := by
      rw [List.length_map, List.length_take]; omega
    have hSn : apSt l (n + 1) = ⟨[(2, .bp (2, 0) 0)], [((2, 0), .box [.own 1 false ((l.take n).map i64 ++ [i64 z])])]⟩ := by
      rw [← hnext]; rfl
    rw [hSn] at hgr
    show Run _ _ _ (St.put (St.setObj ⟨[(2, .bp (2, 0) 0)], [((2, 0), .box [.own 1 false ((l.take n).map i64)])]⟩ (99, 9) (.mem [(L, .loop r)])) 7 (i64 z))
    generalize (l.take n).map i64 = Ys at hgr hlenY
    clear hnext hSn
    repeat (refine Run.go rfl ?_)
    refine Run.beginRound (99, 9) hgr rfl hrs ?_
    generalize hrb : ({ r with state := .busy } : Loop) = rb at hgr
    repeat (refine Run.go rfl ?_)
    refine Run.unBox (2, 0) 0 (2, 1) rfl rfl rfl (by decide) ?_
    repeat (refine Run.go rfl ?_)
    refine Run.buildSlice [i64 z] rfl rfl rfl rfl rfl rfl rfl rfl rfl rfl rfl rfl rfl rfl ?_
    refine Run.appendo rfl rfl rfl rfl rfl rfl rfl rfl rfl rfl rfl rfl rfl rfl (by show (Ys.length + 1) * 8 ≤ 140737488355328; omega) (by simp [capMax]; omega) (by decide) rfl ?_
    refine Run.unpack 11 rfl rfl ?_
    repeat (refine Run.go rfl ?_)
    refine Run.packBox (2, 0) 0 rfl rfl rfl rfl ?_
    repeat (refine Run.go rfl ?_)
    exact Run.roundEnd hgr trivial (St.Le.mk' ⟨rfl, trivial⟩ ⟨rfl, rfl, trivial⟩)
  · intro g2 D _ hg2 hD _
    have hSn : apSt l (vlI l).length = ⟨[(2, .bp (2, 0) 0)], [((2, 0), .box [.own 1 false (l.map i64)])]⟩ := by rw [apSt, hvl, List.take_length]
    rw [hSn]
    refine Run.unBox (2, 0) 0 (2, 1) rfl rfl rfl (by decide) ?_
    repeat (refine Run.go rfl ?_)
    refine Run.pack 4 rfl rfl rfl ?_
    exact Run.retM hg2 hD rfl rfl
  · intro n g2 D _ _ _ h
    exact h.elim

theorem tup_two {w : World} {L : Nat → Prop} {β : Env} {x y : AV} {ws : Array Value} (hx : x.pl = true) (hy : y.pl = true) (h : Rel w L β (.tup [x, y]) (.tuple ws) []) :
    ∃ u v, ws = #[u, v] ∧ Rel w L β x u [] ∧ Rel w L β y v [] := by
  generalize hG : ([] : List Nat) = G at h
  cases h with
  | tup _ _ _ Fs hl hr =>
    have hsz : ws.size = 2 := by simpa using hl.symm
    obtain ⟨u, v, rfl⟩ : ∃ u v, ws = #[u, v] := ⟨ws[0], ws[1], by
      apply Array.ext
      · simpa using hsz
      · intro i h1 h2
        have : i = 0 ∨ i = 1 := by simp at h2; omega
        rcases this with rfl | rfl <;> rfl⟩
    have h0 := hr 0 x u rfl rfl
    have h1 := hr 1 y v rfl rfl
    have e0 := h0.pl_nil hx
    have e1 := h1.pl_nil hy
    rw [e0] at h0
    rw [e1] at h1
    rw [← hG]
    exact ⟨u, v, rfl, h0, h1⟩
theorem tup_lits {w : World} {L : Nat → Prop} {β : Env} (u v : Value) : Rel w L β (.tup [.lit u, .lit v]) (.tuple #[u, v]) [] := by
  have := Rel.tup (w := w) (L := L) β [.lit u, .lit v] #[u, v] (fun _ => []) rfl (by
    intro k x z hx hz
    match k with
    | 0 => cases hx; cases hz; exact .lit _ _
    | 1 => cases hx; cases hz; exact .lit _ _
    | k + 2 => cases hx)
  rwa [foots_nil (by intro k _; rfl)] at this

def vlF (l : List Int) (ex : Bool) : AV := .fn 31 [.rp [.ro 1 ex (l.map i64)] 0]

theorem appendSeq_ct (l : List Int) (ex : Bool) (hl : l.length ≤ 1000) : Ct Try.prog 37 [.lit (.slice none 0 0), vlF l ex] (.own 1 false (l.map i64)) [] := by
  refine Ct.ofAmb (by kernel_rfl) rfl fun w L vs hr => ?_
  obtain ⟨x, y, rfl, hx, hy⟩ := tup_two rfl rfl hr
  cases hx
  obtain ⟨-, c0, q0, A, c, b, o, rfl, hA, h1, h2⟩ := fn_slice hy
  exact ⟨_, _, vlAmb_on h1 h2, appendSeqA_ct l hl c0 q0 A c b o hA, tup_lits _ _⟩

noncomputable def X29 : Fx := ⟨Try.prog, tys, 29, Try.f29, []⟩
theorem X29_ok : X29.Ok := ⟨Try.func29, tys_ok⟩
theorem collect_ct (l : List Int) (ex : Bool) (hl : l.length ≤ 1000) : Ct Try.prog 29 [vlF l ex] (.own 1 false (l.map i64)) [] := by
  refine Ct.intro X29 X29_ok rfl (by kernel_rfl) rfl rfl fun g hg => ?_
  repeat (refine Run.go rfl ?_)
  refine Run.callp rfl rfl rfl rfl rfl rfl rfl rfl rfl (appendSeq_ct l ex hl) (by decide) (by decide) ?_
  repeat (refine Run.go rfl ?_)
  exact Run.ret hg rfl rfl

noncomputable def X14 : Fx := ⟨Try.prog, tys, 14, Try.f14, []⟩
theorem X14_ok : X14.Ok := ⟨Try.func14, tys_ok⟩
theorem sorted_ct (l : List Int) (ex : Bool) (hl : l.length ≤ 60) : Ct Try.prog 14 [vlF l ex] (.own 1 false ((srtI l).map i64)) [] := by
  refine Ct.intro X14 X14_ok rfl (by kernel_rfl) rfl rfl fun g hg => ?_
  repeat (refine Run.go rfl ?_)
  refine Run.callp rfl rfl rfl rfl rfl rfl rfl rfl rfl (collect_ct l ex (by omega)) (by decide) (by decide) ?_
  repeat (refine Run.go rfl ?_)
  refine Run.callG (3, 0) rfl rfl rfl rfl rfl rfl rfl rfl (sort64_ct l false hl) rfl rfl ?_
  repeat (refine Run.go rfl ?_)
  refine Run.pack 2 rfl rfl (by rw [List.length_map, List.length_map, (srtI_perm l).length_eq]) ?_
  exact Run.ret hg rfl rfl
end Go.Proofs.Ytcfkdcjindhnjaa
