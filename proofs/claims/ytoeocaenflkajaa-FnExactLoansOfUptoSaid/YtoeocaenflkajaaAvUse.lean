/- Calls. -/
import Derived.Test.YtoeocaenflkajaaAvBox
namespace Go.Av
open Go Go.RowKit

-- no part of it is memory that is only read
mutual
def AV.rf : AV → Bool
  | .ro _ _ xs => match xs with | [] => true | _ :: _ => false
  | .own _ _ xs => AV.rfL xs
  | .agg cs => AV.rfL cs
  | .tup cs => AV.rfL cs
  | .fn _ cs => AV.rfL cs
  | .mv _ cs => AV.rfL cs
  | .rp .. => false
  | _ => true
def AV.rfL : List AV → Bool
  | [] => true
  | x :: xs => x.rf && AV.rfL xs
end

theorem AV.rfL_get {xs : List AV} (h : AV.rfL xs = true) : ∀ (k : Nat) (x : AV), xs[k]? = some x → x.rf = true := by
  induction xs with
  | nil => intro k x hx; simp at hx
  | cons y ys ih =>
    simp only [AV.rfL, Bool.and_eq_true] at h
    intro k x hx
    cases k with
    | zero => simp at hx; subst hx; exact h.1
    | succ k => exact ih h.2 k x (by simpa using hx)

theorem AV.rfL_append {xs ys : List AV} : AV.rfL (xs ++ ys) = (AV.rfL xs && AV.rfL ys) := by
  induction xs with
  | nil => simp [AV.rfL]
  | cons x xs ih => simp [AV.rfL, ih, Bool.and_assoc]

theorem rf_flatc {xs : List AV} (h : AV.rfL xs = true) : AV.rfL (flatc xs) = true := by
  unfold flatc
  induction xs with
  | nil => rfl
  | cons x xs ih =>
    simp only [AV.rfL, Bool.and_eq_true] at h
    simp only [List.flatMap_cons, AV.rfL_append, ih h.2, Bool.and_true]
    cases x <;> simp only [AV.cells, AV.rfL, Bool.and_true] <;> first | exact h.1 | (simpa [AV.rf] using h.1)

theorem Rel.anyL {w : World} {L : Nat → Prop} {β : Env} {x : AV} {v : Value} {F : List Nat} (h : Rel w L β x v F) (L' : Nat → Prop) : x.rf = true → Rel w L' β x v F := by
  induction h with
  | top β v => intro _; exact .top _ _
  | lit β v => intro _; exact .lit _ _
  | roNil β sz ex A c hc he => intro _; exact .roNil _ _ _ _ _ hc he
  | ro β sz ex xs b o c vals hL hz hl hrow hr hc hm he ih =>
    intro hf
    cases xs with
    | nil => exact .roNil _ _ _ _ _ hm he
    | cons => simp [AV.rf] at hf
  | ownNil β sz ex A => intro _; exact .ownNil _ _ _ _
  | own β sz ex xs b c arr T lo hi Fs hb hfz hs hz hr hc hm he ih =>
    intro hf
    exact .own _ _ _ _ _ _ arr T lo hi Fs hb hfz hs hz (fun k x u hx hu => ih k x u hx hu (AV.rfL_get (rf_flatc (by simpa [AV.rf] using hf)) k x hx)) hc hm he
  | agg β cs vals Fs hl hr ih =>
    intro hf
    exact .agg _ _ _ _ hl fun k x u hx hu => ih k x u hx hu (AV.rfL_get (by simpa [AV.rf] using hf) k x hx)
  | tup β cs vals Fs hl hr ih =>
    intro hf
    exact .tup _ _ _ _ hl fun k x u hx hu => ih k x u hx hu (AV.rfL_get (by simpa [AV.rf] using hf) k x hx)
  | fn β f cs vals hl hr ih =>
    intro hf
    exact .fn _ _ _ _ hl fun k x u hx hu => ih k x u hx hu (AV.rfL_get (by simpa [AV.rf] using hf) k x hx)
  | mv β f cs vals hl hr ih =>
    intro hf
    exact .mv _ _ _ _ hl fun k x u hx hu => ih k x u hx hu (AV.rfL_get (by simpa [AV.rf] using hf) k x hx)
  | rp β cs j b o vals hL hl hrow hr ih => intro hf; simp [AV.rf] at hf
  | bp β id j b h => intro _; exact .bp _ _ _ _ h
  | ep β id i j b n c sz h => intro _; exact .ep _ _ _ _ _ _ _ _ h
  | vec β id off len b n c sz A h ho hA hn => intro _; exact .vec _ _ _ _ _ _ _ _ _ h ho hA hn
  | vecNil β id sz A A' h => intro _; exact .vecNil _ _ _ _ _ h

-- what a callee is shown of a value: memory of the running call is only read meanwhile
mutual
def St.exp (st : St) : Nat → AV → Option AV
  | 0, _ => none
  | _ + 1, .vec id off len => match st.obj id with
    | .vec sz ex xs => some (bif Nat.beq off 0 && decide (len = xs.length) then .ro sz ex (AV.frzL xs) else .ro sz false (((AV.frzL xs).drop off).take len))
    | _ => none
  | n + 1, .bp id j => match st.obj id with
    | .box cs => match St.expL st n cs with
      | some cs' => some (.rp cs' j)
      | none => none
    | _ => none
  | _ + 1, .ep id i j => match st.obj id with
    | .vec _ _ xs => match xs[i]? with
      | some x => some (.rp x.frz.cells j)
      | none => none
    | _ => none
  | n + 1, .agg cs => match St.expL st n cs with
    | some cs' => some (.agg cs')
    | none => none
  | n + 1, .fn f cs => match St.expL st n cs with
    | some cs' => some (.fn f cs')
    | none => none
  | n + 1, .mv f cs => match St.expL st n cs with
    | some cs' => some (.mv f cs')
    | none => none
  | _ + 1, .own sz ex xs => some (.ro sz ex (AV.frzL xs))
  | _ + 1, .tup _ => none
  | _ + 1, x => some x
def St.expL (st : St) : Nat → List AV → Option (List AV)
  | 0, _ => none
  | _ + 1, [] => some []
  | n + 1, x :: xs => match St.exp st n x, St.expL st n xs with
    | some x', some xs' => some (x' :: xs')
    | _, _ => none
end

theorem flatc_take {xs : List AV} {sz : Nat} (hz : ∀ x ∈ xs, x.cells.length = sz) (n : Nat) : flatc (xs.take n) = (flatc xs).take (n * sz) := by
  unfold flatc
  induction xs generalizing n with
  | nil => simp
  | cons x xs ih =>
    cases n with
    | zero => simp
    | succ n =>
      have h1 := hz x (by simp)
      simp only [List.take_succ_cons, List.flatMap_cons, ih (fun y hy => hz y (by simp [hy]))]
      rw [List.take_append, h1, Nat.succ_mul]
      rw [List.take_of_length_le (l := x.cells) (by omega)]
      congr 2
      omega

theorem flatc_drop {xs : List AV} {sz : Nat} (hz : ∀ x ∈ xs, x.cells.length = sz) (n : Nat) : flatc (xs.drop n) = (flatc xs).drop (n * sz) := by
  unfold flatc
  induction xs generalizing n with
  | nil => simp
  | cons x xs ih =>
    cases n with
    | zero => simp
    | succ n =>
      have h1 := hz x (by simp)
      simp only [List.drop_succ_cons, List.flatMap_cons, ih (fun y hy => hz y (by simp [hy]))]
      rw [List.drop_append, h1, Nat.succ_mul]
      rw [List.drop_eq_nil_of_le (as := x.cells) (by omega), List.nil_append]
      congr 1
      omega

section
variable {X : Fx} {g : Gx} {st : St} {a : Act} {w w' : World} {β : Env} {F : Key → List Nat} {L : Nat → Prop} {k : List Item}

/-- A part of an own slice, as it is read. -/
theorem Rel.own_ro {sz : Nat} {ex : Bool} {xs : List AV} {v u : Value} {G : List Nat} {id : Id} {off len : Nat} {γ : Env} (ho : Rel w L γ (.own sz ex xs) v G)
    (hβ : β id = some (v, sz)) (h : Rel w L β (.vec id off len) u []) :
    Rel w (fun _ => False) noEnv (.ro sz false (((AV.frzL xs).drop off).take len)) u [] ∧ (off = 0 → len = xs.length → Rel w (fun _ => False) noEnv (.ro sz ex (AV.frzL xs)) u []) := by
  have hfr := ho.frz (L' := fun _ => False) (fun _ _ h => h.elim) (fun _ _ h => h)
  generalize hx : AV.vec id off len = x at h
  generalize hG0 : ([] : List Nat) = G0 at h
  cases h with
  | vecNil _ _ _ A A' hβ' =>
    injection hx with h1 h2 h3
    subst h1; subst h2; subst h3
    simp only [List.take_zero]
    refine ⟨.roNil _ _ _ _ _ (by simp [capMax]) (fun h => by cases h), fun _ hl => ?_⟩
    have : xs = [] := by cases xs; rfl; simp at hl
    subst this
    exact .roNil _ _ _ _ _ (by simp [capMax]) (fun _ => rfl)
  | vec _ _ _ _ b n c sz' A hβ' hol hA hn =>
    injection hx with h1 h2 h3
    subst h1; subst h2; subst h3
    rw [hβ] at hβ'
    cases hβ'
    simp only [AV.frz] at hfr
    generalize hc1 : (Value.slice (some ⟨b, 0, none⟩) n c) = v at hfr ho
    have hxs : xs.length = n ∧ c ≤ capMax ∧ (ex = true → c = n) := by
      cases ho with
      | ownNil _ _ _ A0 => cases hc1; exact ⟨rfl, by simp [capMax], fun _ => rfl⟩
      | own _ _ _ _ b' c' arr T lo hi Fs hb hfz hs hz hr hc hm he => cases hc1; exact ⟨rfl, hm, he⟩
    obtain ⟨hxn, hcm, hex⟩ := hxs
    by_cases hoc : off < c
    · obtain rfl := hA hoc
      generalize hys : AV.frzL xs = ys at hfr
      have hyl : ys.length = n := by rw [← hys, AV.frzL_eq]; simpa using hxn
      generalize hrr : AV.ro sz ex ys = r at hfr
      generalize hG1 : ([] : List Nat) = G1 at hfr
      cases hfr with
      | ro _ _ _ _ b' o' c' vals hL hz hl hrow hr hc hm he =>
        cases hc1; cases hrr
        have hz2 : ∀ y ∈ (ys.drop off).take len, y.cells.length = sz := fun y hy => hz y (List.mem_of_mem_drop (List.mem_of_mem_take hy))
        have hfl : flatc ((ys.drop off).take len) = ((flatc ys).drop (off * sz)).take (len * sz) := by
          rw [flatc_take (sz := sz) (fun y hy => hz y (List.mem_of_mem_drop hy)), flatc_drop hz]
        have hlen2 : ((ys.drop off).take len).length = len := by simp; omega
        have key := Rel.ro (w := w) (L := fun _ => False) noEnv sz false ((ys.drop off).take len) b (off * sz) (c - off) ((vals.drop (off * sz)).take (len * sz)) (fun _ h => h) hz2
          (by rw [hfl]; simp; omega)
          (by
            intro k u hk
            rw [List.getElem?_take] at hk
            split at hk
            · rw [List.getElem?_drop] at hk
              have := hrow _ _ hk
              simpa using this
            · cases hk)
          (by
            intro k x u hx hu
            rw [hfl, List.getElem?_take] at hx
            rw [List.getElem?_take] at hu
            split at hx
            · rename_i hk
              rw [if_pos hk] at hu
              exact hr (off * sz + k) x u (by simpa using hx) (by simpa using hu)
            · cases hx)
          (by omega) (by omega) (fun h => by cases h)
        rw [hlen2] at key
        refine ⟨key, ?_⟩
        rintro rfl rfl
        have := Rel.ro (w := w) (L := fun _ => False) noEnv sz ex ys b 0 c vals hL hz hl hrow hr hc hm he
        simp only [Nat.zero_mul, Nat.sub_zero]
        rwa [hyl, ← hxn] at this
      | roNil _ _ _ A' c' hcc he =>
        cases hc1; cases hrr
        have hl0 : len = 0 := by omega
        subst hl0
        simp only [List.take_zero]
        refine ⟨.roNil _ _ _ _ _ (by omega) (fun h => by cases h), ?_⟩
        rintro rfl hl
        exact .roNil _ _ _ _ _ (by omega) (fun h => by rw [hex h])
      | _ => cases hrr
    · have hl0 : len = 0 := by omega
      subst hl0
      simp only [List.take_zero]
      refine ⟨.roNil _ _ _ _ _ (by omega) (fun h => by cases h), ?_⟩
      rintro rfl hl
      have : xs = [] := by cases xs; rfl; simp at hl
      subst this
      have hc0 : c = 0 := by omega
      subst hc0
      exact .roNil _ _ _ _ _ (by simp [capMax]) (fun _ => rfl)
  | _ => cases hx

theorem exp_ok (h : Inv X g st a w β F L) : ∀ (n : Nat),
    (∀ (x x' : AV) (u : Value) (G : List Nat), Rel w L β x u G → st.exp n x = some x' → Rel w (fun _ => False) noEnv x' u []) ∧
    (∀ (xs xs' : List AV), st.expL n xs = some xs' → xs'.length = xs.length ∧ ∀ (k : Nat) (y' : AV), xs'[k]? = some y' → ∃ (y : AV) (m : Nat), xs[k]? = some y ∧ m < n ∧ st.exp m y = some y')
  | 0 => ⟨fun x x' u G _ hx => by simp [St.exp] at hx, fun xs xs' hx => by simp [St.expL] at hx⟩
  | n + 1 => by
    obtain ⟨i1, i2⟩ := exp_ok h n
    have mono : ∀ m, m ≤ n → ∀ (x x' : AV) (u : Value) (G : List Nat), Rel w L β x u G → st.exp m x = some x' → Rel w (fun _ => False) noEnv x' u [] := by
      intro m hm
      exact (exp_ok h m).1
    have pureK : ∀ (x : AV) (u : Value) (G : List Nat), Rel w L β x u G → x.free = true → x.pl = true ∨ x = .top → Rel w (fun _ => False) noEnv x u [] := by
      intro x u G hr hf hp
      have : G = [] := by
        rcases hp with hp | rfl
        · exact hr.pl_nil hp
        · cases hr; rfl
      subst this
      exact (hr.env noEnv hf).sub fun _ _ h => h.elim
    have lists : ∀ (cs cs' : List AV) (vals : Array Value) (Fs : Nat → List Nat), cs.length = vals.size → (∀ (k : Nat) (x : AV) (u : Value), cs[k]? = some x → vals[k]? = some u → Rel w L β x u (Fs k)) → st.expL n cs = some cs' →
        cs'.length = vals.size ∧ ∀ (k : Nat) (x : AV) (u : Value), cs'[k]? = some x → vals[k]? = some u → Rel w (fun _ => False) noEnv x u [] := by
      intro cs cs' vals Fs hl hr he
      obtain ⟨e1, e2⟩ := i2 cs cs' he
      refine ⟨by omega, fun k x u hx hu => ?_⟩
      obtain ⟨y, m, hy, hm, hey⟩ := e2 k x hx
      exact mono m (by omega) y x u _ (hr k y u hy hu) hey
    refine ⟨fun x x' u G hr hx => ?_, fun xs xs' hx => ?_⟩
    · cases x with
      | vec id off len =>
        simp only [St.exp] at hx
        have ho := h.obj id
        split at hx
        · rename_i sz ex xs hob
          rw [hob] at ho
          obtain ⟨v, hβ, hown⟩ := ho
          have hG : G = [] := hr.pl_nil rfl
          subst hG
          obtain ⟨k1, k2⟩ := hown.own_ro hβ hr
          simp only [Option.some.injEq] at hx
          subst hx
          cases hb : Nat.beq off 0 && decide (len = xs.length)
          · simpa using k1
          · simp only [Bool.and_eq_true, decide_eq_true_eq] at hb
            simpa using k2 (Nat.eq_of_beq_eq_true hb.1) hb.2
        · cases hx
      | bp id j =>
        simp only [St.exp] at hx
        have ho := h.obj id
        split at hx
        · rename_i cs hob
          rw [hob] at ho
          obtain ⟨b, arr, T, lo, hi, Fs, hβ, hb, hfz, hs, hrr, hF⟩ := ho
          split at hx
          · rename_i cs' he
            cases hx
            cases hr with
            | bp _ _ _ b' hβ' =>
            rw [hβ] at hβ'
            cases hβ'
            obtain ⟨e1, e2⟩ := lists cs cs' arr Fs hs.symm hrr he
            have := Rel.rp (w := w) (L := fun _ => False) noEnv cs' j b 0 arr.toList (fun _ h => h) (by simpa using e1) (by
              intro k u hk
              simp only [Nat.zero_add]
              simp [World.cell?, hb]; simpa using hk) (fun k x u hx hu => e2 k x u hx (by simpa using hu))
            simpa using this
          · cases hx
        · cases hx
      | ep id i j =>
        simp only [St.exp] at hx
        have ho := h.obj id
        split at hx
        · rename_i sz ex xs hob
          rw [hob] at ho
          obtain ⟨v, hβ, hown⟩ := ho
          split at hx
          · rename_i x hxi
            cases hx
            cases hr with
            | ep _ _ _ _ b n' c sz' hβ' =>
            rw [hβ] at hβ'
            cases hβ'
            have hfr := hown.frz (L' := fun _ => False) (fun _ _ h => h.elim) (fun _ _ h => h)
            simp only [AV.frz] at hfr
            generalize hc1 : (Value.slice (some ⟨b, 0, none⟩) n' c) = v at hfr
            generalize hys : AV.frzL xs = ys at hfr
            have hyi : ys[i]? = some x.frz := by rw [← hys, AV.frzL_eq, List.getElem?_map, hxi]; rfl
            generalize hrr : AV.ro sz ex ys = r at hfr
            generalize hG1 : ([] : List Nat) = G1 at hfr
            cases hfr with
            | ro _ _ _ _ b' o' c' vals hL hz hl hrow hr' hc hm he =>
              cases hc1; cases hrr
              have hiy : i < ys.length := (List.getElem?_eq_some_iff.1 hyi).1
              have hxm : x.frz ∈ ys := List.mem_of_getElem? hyi
              have hfx : x.frz.cells = ((flatc ys).drop (i * sz)).take sz := by
                have h1 : (ys.drop i).take 1 = [x.frz] := by
                  rw [List.take_one, List.head?_drop, hyi]; rfl
                have h2 := flatc_take (sz := sz) (xs := ys.drop i) (fun y hy => hz y (List.mem_of_mem_drop hy)) 1
                rw [h1, flatc_drop hz] at h2
                simpa [flatc] using h2
              have hlen : (i + 1) * sz ≤ vals.length := by
                rw [← hl, flatc_length hz]; exact Nat.mul_le_mul_right _ hiy
              have hxl := hz _ hxm
              rw [Nat.succ_mul] at hlen
              have := Rel.rp (w := w) (L := fun _ => False) noEnv x.frz.cells j b (i * sz) ((vals.drop (i * sz)).take sz) (fun _ h => h) (by simp; omega) (by
                intro k u hk
                rw [List.getElem?_take] at hk
                split at hk
                · rw [List.getElem?_drop] at hk
                  simpa using hrow _ _ hk
                · cases hk) (by
                intro k y u hy hu
                rw [hfx, List.getElem?_take] at hy
                rw [List.getElem?_take] at hu
                split at hy
                · rename_i hk
                  rw [if_pos hk] at hu
                  exact hr' (i * sz + k) y u (by simpa using hy) (by simpa using hu)
                · cases hy)
              exact this
            | roNil _ _ _ A' c' hcc he => cases hrr; simp at hyi
            | _ => cases hrr
          · cases hx
        · cases hx
      | agg cs =>
        simp only [St.exp] at hx
        split at hx
        · rename_i cs' he
          cases hx
          cases hr with
          | agg _ _ vals Fs hl hrr =>
          obtain ⟨e1, e2⟩ := lists cs cs' vals Fs hl hrr he
          have := Rel.agg (w := w) (L := fun _ => False) noEnv cs' vals (fun _ => []) e1 e2
          rwa [foots_nil (fun _ _ => rfl)] at this
        · cases hx
      | fn f cs =>
        simp only [St.exp] at hx
        split at hx
        · rename_i cs' he
          cases hx
          cases hr with
          | fn _ _ _ vals hl hrr =>
          obtain ⟨e1, e2⟩ := lists cs cs' vals (fun _ => []) hl hrr he
          exact .fn _ _ _ _ e1 e2
        · cases hx
      | mv f cs =>
        simp only [St.exp] at hx
        split at hx
        · rename_i cs' he
          cases hx
          cases hr with
          | mv _ _ _ vals hl hrr =>
          obtain ⟨e1, e2⟩ := lists cs cs' vals (fun _ => []) hl hrr he
          exact .mv _ _ _ _ e1 e2
        · cases hx
      | own sz ex xs =>
        simp only [St.exp, Option.some.injEq] at hx
        subst hx
        have := hr.frz (L' := fun _ => False) (fun _ _ h => h.elim) (fun _ _ h => h)
        simp only [AV.frz] at this
        exact this.env noEnv rfl
      | tup vs => simp [St.exp] at hx
      | lit v => simp only [St.exp, Option.some.injEq] at hx; subst hx; exact pureK _ _ _ hr rfl (.inl rfl)
      | top => simp only [St.exp, Option.some.injEq] at hx; subst hx; exact .top _ _
      | ro sz ex xs => simp only [St.exp, Option.some.injEq] at hx; subst hx; exact pureK _ _ _ hr rfl (.inl rfl)
      | rp cs j => simp only [St.exp, Option.some.injEq] at hx; subst hx; exact pureK _ _ _ hr rfl (.inl rfl)
    · cases xs with
      | nil => simp only [St.expL, Option.some.injEq] at hx; subst hx; simp
      | cons x xs =>
        simp only [St.expL] at hx
        split at hx
        · rename_i x1 xs1 h1 h2
          simp only [Option.some.injEq] at hx
          subst hx
          obtain ⟨e1, e2⟩ := i2 xs xs1 h2
          refine ⟨by simp [e1], fun k y' hy => ?_⟩
          cases k with
          | zero => simp at hy; subst hy; exact ⟨x, n, rfl, by omega, h1⟩
          | succ k =>
            obtain ⟨y, m, hy1, hm, hy2⟩ := e2 k y' (by simpa using hy)
            exact ⟨y, m, by simpa using hy1, by omega, hy2⟩
        · cases hx

end
end Go.Av
