/- Contracts of the program's functions, and what follows from them. -/
import Derived.Test.YtmeejegdgfkogaaGreatDoorE7
import Derived.Test.YtmeejegdgfkogaaGreatDoorE4
import Derived.Test.YtmeejegdgfkogaaGreatDoorSC
import Derived.Test.YtmeejegdgfkogaaGreatDoorK2
import Derived.Test.YtmeejegdgfkogaaGreatDoorMF
import Derived.Lib.Join
set_option linter.unusedVariables false
set_option maxRecDepth 100000
set_option linter.unusedSimpArgs false
namespace Go.Proofs.YtmeejegdgfkogaaGreatDoor
open Go Go.Av Go.RowKit

/-! Texts of books and racks. -/

theorem Join_ct (ls : List (List UInt8)) (sep : List UInt8) (ex : Bool) (h0 : ls ≠ []) (hN : ls.length ≤ 1000) (hlen : (Lib.join ls sep).length ≤ 1099511627776) :
    Ct Tryz.prog 81 [.ro 1 ex (ls.map str), str sep] (str (Lib.join ls sep)) [] := by
  refine ⟨by rw [Tryz.func81]; kernel_rfl, fun w L vs F hL hF hr => ?_⟩
  obtain rfl := tup_pl hr rfl
  have hfl : flatc (ls.map str) = ls.map str := by
    unfold flatc
    clear h0 hN hlen hr
    induction ls with
    | nil => rfl
    | cons x r ih => simp only [List.map_cons, List.flatMap_cons, ih]; rfl
  obtain ⟨b, o, c, hvs, hlt, hcap, hcells⟩ : ∃ b o c, vs = #[.slice (some ⟨b, o, none⟩) ls.length c, .string ⟨sep.toArray⟩] ∧ b < w.heap.size ∧ ls.length ≤ c ∧ ∀ (j : Nat) x, ls[j]? = some x → w.cell? ⟨b, o + j, none⟩ = some (.string ⟨x.toArray⟩) := by
    generalize hy : Value.tuple vs = y at hr
    generalize hG0 : ([] : List Nat) = G0 at hr
    cases hr with
    | tup _ cs vals Fs hl hr =>
      cases hy
      have hsz : vs.size = 2 := hl.symm
      have e0 := Array.getElem?_eq_getElem (show 0 < vs.size by omega)
      have e1 := Array.getElem?_eq_getElem (show 1 < vs.size by omega)
      have r0 := hr 0 _ _ rfl e0
      have r1 := hr 1 _ _ rfl e1
      have hv : vs = #[vs[0], vs[1]] := by
        apply Array.ext
        · simp [hsz]
        · intro i h1 h2
          have : i = 0 ∨ i = 1 := by omega
          rcases this with rfl | rfl <;> rfl
      generalize vs[0] = v0 at r0 hv
      generalize vs[1] = v1 at r1 hv
      generalize Fs 0 = G0 at r0
      generalize Fs 1 = G1 at r1
      unfold str at r1
      cases r1
      generalize hys : ls.map str = ys at r0
      cases r0 with
      | roNil => exact absurd (List.map_eq_nil_iff.1 hys) h0
      | ro _ _ _ _ b o c vals hL' hz hl' hrow hr' hc hm he =>
        subst hys
        have hne : vals ≠ [] := by
          rintro rfl
          rw [hfl] at hl'
          simp at hl'
          exact h0 hl'
        refine ⟨b, o, c, by rw [hv]; simp, hrow.lt hne, by simpa using hc, fun j x hx => ?_⟩
        have hjl : j < ls.length := (List.getElem?_eq_some_iff.1 hx).1
        rw [hfl] at hl' hr'
        have hjv : j < vals.length := by rw [← hl']; simpa using hjl
        have := hr' j (str x) vals[j] (by rw [List.getElem?_map, hx]; rfl) (List.getElem?_eq_getElem hjv)
        generalize hu : vals[j] = u at this
        unfold str at this
        cases this
        exact hrow j _ (by rw [List.getElem?_eq_getElem hjv, hu])
  subst hvs
  have hj : (ls.map fun l => (⟨l.toArray⟩ : ByteArray)).map (·.data.toList) = ls := by
    rw [List.map_map]
    conv => rhs; rw [← List.map_id ls]
    exact List.map_congr_left fun l _ => by simp
  have hs : (⟨sep.toArray⟩ : ByteArray).data.toList = sep := by simp
  have := Tryz.strings_Join b o c (ls.map fun l => ⟨l.toArray⟩) ⟨sep.toArray⟩ w (fun j x hx => by
    rw [List.getElem?_map] at hx
    obtain ⟨l, hl, rfl⟩ := Option.map_eq_some_iff.1 hx
    exact hcells j l hl) hlt (by rw [List.length_map]; omega) (by rw [List.length_map]; exact hcap) (by rw [hj, hs]; omega)
  rw [hj, hs, List.length_map] at this
  refine this.mono ?_
  rintro e w' ⟨rfl, hb⟩
  refine ⟨_, [], rfl, Kp.of_below hb, by simp, by simp, ?_⟩
  have := Rel.tup (w := w') (L := fun b => L b ∨ b ∈ ([] : List Nat)) noEnv [str (Lib.join ls sep)] #[.string ⟨(Lib.join ls sep).toArray⟩] (fun _ => []) (by simp) (by
    intro k x u hx hu
    cases k with
    | zero =>
      simp at hx hu
      subst hx; subst hu
      exact .lit _ _
    | succ k => simp at hx)
  rw [foots_nil (fun _ _ => rfl)] at this
  simpa using this

def dcN (n : Int) : List UInt8 := Lib.decDigits n.toNat
def bookT (x : Bk) : List UInt8 := dcN x.cl ++ [32] ++ bys [x.a, x.b, x.c] ++ [32] ++ dcN x.vol ++ [32] ++ dcN x.wd ++ [120] ++ dcN x.hi ++ [32] ++ dcN x.wt

theorem dcN_len {n : Int} (h : n ≤ 32767) : (dcN n).length ≤ 21 := dl_len _ (by omega)

/-- The numbers of a valid book. -/
def bkNum (x : Bk) : Prop := (0 ≤ x.cl ∧ x.cl ≤ 32767) ∧ (0 ≤ x.vol ∧ x.vol ≤ 32767) ∧ (0 ≤ x.wd ∧ x.wd ≤ 32767) ∧ (0 ≤ x.hi ∧ x.hi ≤ 32767) ∧ (0 ≤ x.wt ∧ x.wt ≤ 32767)
theorem vB_num {x : Bk} (h : vB x = true) : bkNum x := by
  simp only [vB, Bool.and_eq_true, inr, decide_eq_true_eq] at h
  unfold bkNum
  omega
theorem bookT_len {x : Bk} (h : bkNum x) : (bookT x).length ≤ 113 := by
  obtain ⟨h1, h2, h3, h4, h5⟩ := h
  have l1 := dcN_len h1.2
  have l2 := dcN_len h2.2
  have l3 := dcN_len h3.2
  have l4 := dcN_len h4.2
  have l5 := dcN_len h5.2
  simp only [bookT, bys, List.length_append, List.length_cons, List.length_nil, List.map_cons, List.map_nil]
  omega

noncomputable def X59 : Fx := ⟨Tryz.prog, tys, 59, Tryz.f59, [0]⟩
theorem X59_ok : X59.Ok := ⟨Tryz.func59, tys_ok⟩
theorem bookText_ct (x : Bk) (h : bkNum x) : CtA ambT Tryz.prog 59 [bkA x] (str (bookT x)) [] := by
  have hbl := bookT_len h
  obtain ⟨h1, h2, h3, h4, h5⟩ := h
  have l3 := dcN_len h3.2
  have l4 := dcN_len h4.2
  have ej : Lib.join [dcN x.cl, bys [x.a, x.b, x.c], dcN x.vol, dcN x.wd ++ [120] ++ dcN x.hi, dcN x.wt] [32] = bookT x := by
    simp [Lib.join, List.intercalate, bookT]
  refine CtA.intro ambT X59 X59_ok rfl (by kernel_rfl) rfl rfl fun g hA hg => ?_
  iterate 3 (refine Run.go rfl ?_)
  refine Run.freezeBox 1 (1, 0) (bkA x).cells rfl rfl rfl rfl ?_
  repeat (refine Run.go rfl ?_)
  refine Run.drawQ1 20 [20, 21, 22] (by kernel_rfl) (by decide +kernel) (by decide +kernel) rfl (by decide +kernel) ?_
  repeat (refine Quiet.go rfl ?_)
  refine Quiet.csA rfl rfl rfl rfl rfl ((dec16_ct x.cl h1.1 h1.2).at hA) rfl rfl ?_
  repeat (refine Quiet.go rfl ?_)
  refine Quiet.val rfl rfl (ValOk.cutArr (ys := [x.a, x.b, x.c].map u8) rfl rfl rfl rfl rfl rfl rfl rfl rfl (by decide)) rfl ?_
  refine Quiet.val rfl rfl (ValOk.b2s (ex := true) [x.a, x.b, x.c] rfl rfl rfl rfl rfl (.inr rfl)) rfl ?_
  repeat (refine Quiet.go rfl ?_)
  refine Quiet.csA rfl rfl rfl rfl rfl ((dec16_ct x.vol h2.1 h2.2).at hA) rfl rfl ?_
  repeat (refine Quiet.go rfl ?_)
  refine Quiet.csA rfl rfl rfl rfl rfl ((dec16_ct x.wd h3.1 h3.2).at hA) rfl rfl ?_
  refine Quiet.val rfl rfl (ValOk.scat (dcN x.wd) [120] rfl rfl rfl (by simp only [List.length_cons, List.length_nil]; omega)) rfl ?_
  repeat (refine Quiet.go rfl ?_)
  refine Quiet.csA rfl rfl rfl rfl rfl ((dec16_ct x.hi h4.1 h4.2).at hA) rfl rfl ?_
  refine Quiet.val rfl rfl (ValOk.scat (dcN x.wd ++ [120]) (dcN x.hi) rfl rfl rfl (by simp only [List.length_append, List.length_cons, List.length_nil]; omega)) rfl ?_
  repeat (refine Quiet.go rfl ?_)
  refine Quiet.csA rfl rfl rfl rfl rfl ((dec16_ct x.wt h5.1 h5.2).at hA) rfl rfl ?_
  refine Quiet.nil ?_
  refine Run.buildSlice [str (dcN x.cl), str (bys [x.a, x.b, x.c]), str (dcN x.vol), str (dcN x.wd ++ [120] ++ dcN x.hi), str (dcN x.wt)] rfl rfl rfl rfl rfl rfl rfl rfl rfl rfl rfl rfl rfl rfl ?_
  refine Run.cs rfl (Join_ct [dcN x.cl, bys [x.a, x.b, x.c], dcN x.vol, dcN x.wd ++ [120] ++ dcN x.hi, dcN x.wt] [32] true (by simp) (by simp) (by rw [ej]; omega)) rfl rfl ?_
  rw [ej]
  repeat (refine Run.go rfl ?_)
  exact Run.ret hg rfl rfl

/-- The line of a placed book. -/
def plT (y : Pl) : List UInt8 := dcN y.p ++ [32] ++ bookT y.b
theorem plT_len {y : Pl} (h : bkNum y.b) (hp : y.p ≤ 32767) : (plT y).length ≤ 1000 := by
  have := bookT_len h
  have := dcN_len hp
  simp only [plT, List.length_append, List.length_cons, List.length_nil]
  omega

noncomputable def X45 : Fx := ⟨Tryz.prog, tys, 45, Tryz.f45, [0]⟩
theorem X45_ok : X45.Ok := ⟨Tryz.func45, tys_ok⟩
theorem placedText_ct (y : Pl) (h : bkNum y.b) (h0 : 0 ≤ y.p) (hp : y.p ≤ 32767) : CtA ambT Tryz.prog 45 [plA y] (str (plT y)) [] := by
  have lb := bookT_len h
  have lp := dcN_len hp
  refine CtA.intro ambT X45 X45_ok rfl (by kernel_rfl) rfl rfl fun g hA hg => ?_
  repeat (refine Run.go rfl ?_)
  refine Run.draw (by kernel_rfl) (by decide +kernel) ?_
  repeat (refine Quiet.go rfl ?_)
  refine Quiet.csA rfl rfl rfl rfl rfl ((dec16_ct y.p h0 hp).at hA) rfl rfl ?_
  refine Quiet.val rfl rfl (ValOk.scat (dcN y.p) [32] rfl rfl rfl (by simp only [List.length_cons, List.length_nil]; omega)) rfl ?_
  repeat (refine Quiet.go rfl ?_)
  refine Quiet.csA rfl rfl rfl rfl rfl ((bookText_ct y.b h).at hA) rfl rfl ?_
  refine Quiet.val rfl rfl (ValOk.scat (dcN y.p ++ [32]) (bookT y.b) rfl rfl rfl (by simp only [List.length_append, List.length_cons, List.length_nil]; omega)) rfl ?_
  repeat (refine Quiet.go rfl ?_)
  refine Quiet.nil ?_
  repeat (refine Run.go rfl ?_)
  exact Run.ret hg rfl rfl
end Go.Proofs.YtmeejegdgfkogaaGreatDoor
