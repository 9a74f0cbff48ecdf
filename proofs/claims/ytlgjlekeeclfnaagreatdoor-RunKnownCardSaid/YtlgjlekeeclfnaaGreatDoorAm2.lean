/-
  The abstract machine, part 2 of 4: a small evaluator of the model's programs over a memory of its own, and that what it comes to the program comes to, for every tape.
-/
import Derived.Test.YtlgjlekeeclfnaaGreatDoorAm1
import Derived.Room.Entries
import Derived.AtR
namespace Go.AM
open Go Go.RowKit

section
variable {P : Program} {X : FuncId → List Value → Option Value} {e : Env} {B0 : Nat} {h : AH} {w : World} {ρ ρ' : Operand → Value}

/-! ### maps -/
theorem HRel.getMap (H : HRel e B0 h w) {r c d : Nat} {es : List MapEntry} {clock : Nat} (hl : e.loc r = some (c, d)) (hg : h.tree.get r = some (.map es clock)) : ∃ es', w.heap[c]? = some (.map es' clock) ∧ EsRel e es es'.toList := by
  obtain ⟨_, ⟨o', h2, h3⟩, _⟩ := H.obj hl hg rfl
  cases o' <;> simp only [ObjRel] at h3
  obtain ⟨rfl, hE⟩ := h3
  exact ⟨_, h2, hE⟩

theorem VRel.map_inv {r : Nat} {v : Value} (hv : VRel e (.map (some r)) v) : ∃ c, v = .map (some c) ∧ e.loc r = some (c, 0) := by
  cases hv with
  | map hl => exact ⟨_, rfl, hl⟩

theorem EsRel.empty {es : List MapEntry} {es' : Array MapEntry} (hE : EsRel e es es'.toList) : es'.isEmpty = es.isEmpty := by
  have := hE.1
  cases es with
  | nil =>
    simp at this
    have := Array.eq_empty_of_size_eq_zero this.symm
    subst this; rfl
  | cons x l =>
    cases hq : es'.isEmpty with
    | false => rfl
    | true => simp at hq; subst hq; simp at this

theorem sim_lookup (H : HRel e B0 h w) {t : TypeId} {x x' k k' : Value} {ok : Bool} {n : ANext} (hV : VRel e x x') (hK : VRel e k k')
    (hx : (match (generalizing := false) P.underlying t, x with
    | some (.map kt el), .map r =>
      let es := match r with
        | none => some []
        | some r => match h.tree.get r with | some (.map es _) => some es | _ => none
      es.bind fun es => match findKeyA P kt k es with
        | some (some (_, v)) => some (ANext.value (cond ok (.tuple #[v, .bool true]) v) h)
        | some none => (zeroVal P el).map fun z => .value (cond ok (.tuple #[z, .bool false]) z) h
        | none => none
    | _, _ => none) = some n) : Out e B0 w n ((do pure (Next.value (← Instr.lookup t x' k' ok)) : Sem Next).run P w) := by
  split at hx
  case h_2 => cases hx
  rename_i kt el r hu
  simp only [] at hx
  obtain ⟨es, hes, hx⟩ := opt_bind_some hx
  have hrun : ∃ es' : Array MapEntry, EsRel e es es'.toList ∧ ((x' = .map none ∧ es' = #[]) ∨ ∃ c clock, x' = .map (some c) ∧ w.heap[c]? = some (.map es' clock)) := by
    cases r with
    | none =>
      cases hes
      cases hV
      exact ⟨#[], ⟨rfl, fun i x y hx => by simp at hx⟩, .inl ⟨rfl, rfl⟩⟩
    | some r =>
      obtain ⟨c, rfl, hl⟩ := hV.map_inv
      simp only [] at hes
      split at hes
      case h_2 => cases hes
      rename_i es2 clock hg
      cases hes
      obtain ⟨es', hh, hE⟩ := H.getMap hl hg
      exact ⟨es', hE, .inr ⟨c, clock, rfl, hh⟩⟩
  obtain ⟨es', hE, hrun⟩ := hrun
  have hgo : ∀ r, findKeyA P kt k es = some r → ∃ r', FR e k es 0 r r' ∧ (Instr.lookup t x' k' ok).run P w = ((do
      let (v, o) ← match r' with
        | some (_, v) => pure (v, true)
        | none => pure (← zeroValue el, false)
      pure (if ok then .tuple #[v, .bool o] else v) : Sem Value)).run P w := by
    intro r hf
    obtain ⟨_, _, hck, r', hFR, hfk⟩ := findKey_run (w := w) (em := es'.isEmpty) hE hK hf
    refine ⟨r', hFR, ?_⟩
    rcases hrun with ⟨rfl, rfl⟩ | ⟨c, clock, rfl, hh⟩
    · simp only [Instr.lookup, Sem.run_bind, run_underlying hu, Result.andThen_ok, Sem.run_pure, hck, hfk]
      cases r' <;> rfl
    · simp only [Instr.lookup, Sem.run_bind, run_underlying hu, Result.andThen_ok, Sem.run_pure, MapKept.run_getObj_map hh, hck, hfk]
      cases r' <;> rfl
  split at hx
  · rename_i i v hf
    cases hx
    obtain ⟨r', hFR, hr⟩ := hgo _ hf
    cases r' with
    | none => exact hFR.elim
    | some p =>
      obtain ⟨i', v'⟩ := p
      have hv := hFR.2.1
      cases ok with
      | true =>
        have hv2 : VRel e (.tuple #[v, .bool true]) (.tuple #[v', .bool true]) := .tuple' (VsRel.cons hv (VsRel.one (.bool _)))
        refine Out.value0 H ?_ hv2
        rw [hr]; simp
      | false =>
        refine Out.value0 H ?_ hv
        rw [hr]; simp
  · rename_i hf
    obtain ⟨z, hz, rfl⟩ := opt_map_some hx
    obtain ⟨hzr, hzf⟩ := zeroVal_run (w := w) hz
    obtain ⟨r', hFR, hr⟩ := hgo _ hf
    cases r' with
    | some p => exact hFR.elim
    | none =>
      cases ok with
      | true =>
        have hv2 : VRel e (.tuple #[z, .bool false]) (.tuple #[z, .bool false]) := .tuple' (VsRel.cons (flat_rel e z hzf) (VsRel.one (.bool _)))
        refine Out.value0 H ?_ hv2
        rw [hr]; simp [hzr]
      | false =>
        refine Out.value0 H ?_ (flat_rel e z hzf)
        rw [hr]; simp [hzr]
  · cases hx

theorem getElem?_setVal : ∀ (es : List MapEntry) (i : Nat) (k v : Value) (j : Nat), (setVal es i k v)[j]? = if j = i then es[j]?.map (fun x => { x with key := k, val := v }) else es[j]?
  | [], i, k, v, j => by simp [setVal]
  | x :: es, 0, k, v, j => by
    cases j <;> simp [setVal]
  | x :: es, i + 1, k, v, j => by
    cases j with
    | zero => simp [setVal]
    | succ j => simp [setVal, getElem?_setVal es i k v j]

theorem length_setVal : ∀ (es : List MapEntry) (i : Nat) (k v : Value), (setVal es i k v).length = es.length
  | [], i, k, v => rfl
  | x :: es, 0, k, v => rfl
  | x :: es, i + 1, k, v => by simp [setVal, length_setVal es i k v]

theorem EsRel.setVal {es : List MapEntry} {es' : Array MapEntry} {i : Nat} {k k' v v' : Value} (hE : EsRel e es es'.toList) (hk : VRel e k k') (hv : VRel e v v') :
    EsRel e (Go.AM.setVal es i k v) (es'.modify i fun x => { x with key := k', val := v' }).toList := by
  refine ⟨by simp [length_setVal, hE.1], fun j x y hx hy => ?_⟩
  rw [getElem?_setVal] at hx
  rw [Array.getElem?_toList, Array.getElem?_modify] at hy
  by_cases hj : j = i
  · subst hj
    rw [if_pos rfl] at hx hy
    obtain ⟨x0, hx0, rfl⟩ := opt_map_some hx
    obtain ⟨y0, hy0, rfl⟩ := opt_map_some hy
    exact ⟨hk, hv, (hE.2 j x0 y0 hx0 (by simpa using hy0)).2.2⟩
  · rw [if_neg hj] at hx
    rw [if_neg (Ne.symm hj)] at hy
    exact hE.2 j x y hx (by simpa using hy)

theorem EsRel.push {es : List MapEntry} {es' : Array MapEntry} {x y : MapEntry} (hE : EsRel e es es'.toList) (hk : VRel e x.key y.key) (hv : VRel e x.val y.val) (hb : x.born = y.born) :
    EsRel e (es ++ [x]) (es'.push y).toList := by
  refine ⟨by simp [hE.1], fun j a b ha hb2 => ?_⟩
  have hl := hE.1
  rw [Array.toList_push] at hb2
  by_cases hj : j < es.length
  · rw [List.getElem?_append_left hj] at ha
    rw [List.getElem?_append_left (by omega)] at hb2
    exact hE.2 j a b ha hb2
  · rw [List.getElem?_append_right (by omega)] at ha
    rw [List.getElem?_append_right (by omega), ← hl] at hb2
    have hj0 : j - es.length = 0 := by
      rcases Nat.eq_zero_or_pos (j - es.length) with h | h
      · exact h
      · rw [List.getElem?_eq_none (by simp; omega)] at ha; cases ha
    rw [hj0] at ha hb2
    cases ha; cases hb2
    exact ⟨hk, hv, hb⟩

theorem EsRel.erase {es : List MapEntry} {es' : Array MapEntry} {i : Nat} (hE : EsRel e es es'.toList) : EsRel e (es.eraseIdx i) (es'.eraseIdxIfInBounds i).toList := by
  have hto : (es'.eraseIdxIfInBounds i).toList = es'.toList.eraseIdx i := by
    unfold Array.eraseIdxIfInBounds
    split
    · simp
    · rename_i hi; rw [List.eraseIdx_of_length_le (by simpa using hi)]
  rw [hto]
  have hl := hE.1
  refine ⟨by simp only [List.length_eraseIdx, hl], fun j a b ha hb => ?_⟩
  rw [List.getElem?_eraseIdx] at ha hb
  by_cases hj : j < i
  · rw [if_pos hj] at ha hb; exact hE.2 j a b ha hb
  · rw [if_neg hj] at ha hb; exact hE.2 _ a b ha hb

theorem HRel.setMap (H : HRel e B0 h w) {r c d : Nat} {es es2 : List MapEntry} {es2' : Array MapEntry} {clock clock2 : Nat} (hl : e.loc r = some (c, d)) (hg : h.tree.get r = some (.map es clock)) (hE : EsRel e es2 es2'.toList) :
    HRel e B0 (h.putObj r (.map es2 clock2)) { w with heap := w.heap.setIfInBounds c (.map es2' clock2) } :=
  H.setObj hl hg rfl rfl ⟨rfl, hE⟩

theorem sim_mapUpdate (H : HRel e B0 h w) {t : TypeId} {x x' k k' v v' : Value} {n : ANext} (hV : VRel e x x') (hK : VRel e k k') (hW : VRel e v v')
    (hx : (match (generalizing := false) P.underlying t, x with
    | some (.map kt _), .map (some r) =>
      match cond (Nat.ble 1000 r) (h.tree.get r) none with
      | some (.map es clock) =>
        match findKeyA P kt k es with
        | some (some (i, _)) => some (ANext.skip (h.putObj r (.map (setVal es i k v) clock)))
        | some none => some (.skip (h.putObj r (.map (es ++ [{ key := k, val := v, born := clock }]) (clock + 1))))
        | none => none
      | _ => none
    | _, _ => none) = some n) : Out e B0 w n ((do Instr.mapUpdate t x' k' v'; pure Next.skip : Sem Next).run P w) := by
  split at hx
  case h_2 => cases hx
  rename_i kt el r hu
  split at hx
  case h_2 => cases hx
  rename_i es clock hg
  obtain ⟨hlow, hg⟩ := cond_some hg
  simp only [nble, decide_eq_true_eq] at hlow
  obtain ⟨c, rfl, hl⟩ := hV.map_inv
  obtain ⟨es', hh, hE⟩ := H.getMap hl hg
  have hB := (H.low hl).2 hlow
  have hset : ∀ es2 clock2, (setObj c (.map es2 clock2)).run P w = .ok () { w with heap := w.heap.setIfInBounds c (.map es2 clock2) } := fun es2 clock2 => MapKept.run_setObj_map _ hh
  split at hx
  · rename_i i v0 hf
    cases hx
    obtain ⟨hkk, hkb, hck, r', hFR, hfk⟩ := findKey_run (w := w) (em := false) hE hK hf
    cases r' with
    | none => exact hFR.elim
    | some p =>
      obtain ⟨i', v1⟩ := p
      obtain ⟨rfl, _, _, x0, hx0, hx0k, _⟩ := hFR
      obtain ⟨y0, hy0, hxy⟩ : ∃ y0, es'.toList[i']? = some y0 ∧ VRel e x0.key y0.key := by
        have hlt : i' < es'.toList.length := by
          rw [← hE.1]
          rcases Nat.lt_or_ge i' es.length with h | h
          · exact h
          · rw [Nat.sub_zero, List.getElem?_eq_none h] at hx0; cases hx0
        exact ⟨_, List.getElem?_eq_getElem hlt, (hE.2 i' x0 _ (by simpa using hx0) (List.getElem?_eq_getElem hlt)).1⟩
      have hyk : y0.key = k' := by
        rw [hkk]
        rw [hx0k] at hxy
        exact keyBits_same hkb hxy
      have hy0' : es'[i']? = some y0 := by simpa using hy0
      have hkb' : keyBits k' = true := by rw [hkk]; exact hkb
      refine Out.skip ?_ (Env.le_refl e) (H.setMap hl hg (hE.setVal (i := i') hK hW)) (below_set hB _)
      simp [Instr.mapUpdate, run_underlying hu, MapKept.run_getObj_map hh, hck, hfk, hy0', hyk, keyStays hkb', hset]
  · rename_i hf
    cases hx
    obtain ⟨hkk, hkb, hck, r', hFR, hfk⟩ := findKey_run (w := w) (em := false) hE hK hf
    cases r' with
    | some p => exact hFR.elim
    | none =>
      refine Out.skip ?_ (Env.le_refl e) (H.setMap hl hg (hE.push (x := { key := k, val := v, born := clock }) (y := { key := k', val := v', born := clock }) hK hW rfl)) (below_set hB _)
      simp [Instr.mapUpdate, run_underlying hu, MapKept.run_getObj_map hh, hck, hfk, hset]
  · cases hx
end
end Go.AM

namespace Go.AM
open Go Go.RowKit

section
variable {P : Program} {X : FuncId → List Value → Option Value} {e : Env} {B0 : Nat} {h : AH} {w : World} {ρ ρ' : Operand → Value}

theorem set_self {w : World} {r : Nat} {o : Obj} (hh : w.heap[r]? = some o) : ({ w with heap := w.heap.setIfInBounds r o } : World) = w := by
  have : w.heap.setIfInBounds r o = w.heap := by
    apply Array.ext_getElem?
    intro i
    rw [Array.getElem?_setIfInBounds]
    by_cases hi : r = i
    · subst hi; rw [if_pos rfl, if_pos (lt_of_heap hh), hh]
    · rw [if_neg hi]
  rw [this]

/-- a builtin that gives a value. -/
theorem sim_delete (H : HRel e B0 h w) {t ty : TypeId} {more : List TypeId} {ats : Array TypeId} {r : Nat} {k : Value} {args' : Array Value} {n : ANext} (hat : ats.toList = t :: more) (hV : VsRel e [.map (some r), k] args'.toList)
    (hx : (match (generalizing := false) P.underlying t, cond (Nat.ble 1000 r) (h.tree.get r) none with
    | some (.map kt _), some (.map es clock) =>
      match findKeyA P kt k es with
      | some (some (i, _)) => some (ANext.value (.tuple #[]) (h.putObj r (.map (es.eraseIdx i) clock)))
      | some none => some (.value (.tuple #[]) h)
      | none => none
    | _, _ => none) = some n) : Out e B0 w n ((do pure (Next.value (← Builtin.delete_ ats ty args')) : Sem Next).run P w) := by
  obtain ⟨args'⟩ := args'
  obtain ⟨m', l1, h1, hm, hl1⟩ := hV.cons_left
  obtain ⟨k', l2, rfl, hk, hl2⟩ := hl1.cons_left
  have := hl2.nil_left
  subst this
  simp only at h1
  subst h1
  obtain ⟨ats⟩ := ats
  simp only at hat
  subst hat
  split at hx
  case h_2 => cases hx
  rename_i kt el es clock hu hg
  obtain ⟨hlow, hg⟩ := cond_some hg
  simp only [nble, decide_eq_true_eq] at hlow
  obtain ⟨c, rfl, hl⟩ := hm.map_inv
  obtain ⟨es', hh, hE⟩ := H.getMap hl hg
  have hB := (H.low hl).2 hlow
  have hset : ∀ es2 clock2, (setObj c (.map es2 clock2)).run P w = .ok () { w with heap := w.heap.setIfInBounds c (.map es2 clock2) } := fun es2 clock2 => MapKept.run_setObj_map _ hh
  have hv : VRel e (.tuple #[]) (.tuple #[]) := .tuple' VsRel.nil
  split at hx
  · rename_i i v0 hf
    cases hx
    obtain ⟨hkk, hkb, hck, r', hFR, hfk⟩ := findKey_run (w := w) (em := es'.isEmpty) hE hk hf
    cases r' with
    | none => exact hFR.elim
    | some p =>
      obtain ⟨i', v1⟩ := p
      obtain ⟨rfl, _⟩ := hFR
      refine Out.value ?_ (Env.le_refl e) hv (H.setMap hl hg hE.erase) (below_set hB _)
      simp [Builtin.delete_, run_underlying hu, MapKept.run_getObj_map hh, hck, hfk, hset]
  · rename_i hf
    cases hx
    obtain ⟨hkk, hkb, hck, r', hFR, hfk⟩ := findKey_run (w := w) (em := es'.isEmpty) hE hk hf
    cases r' with
    | some p => exact hFR.elim
    | none =>
      refine Out.value0 H ?_ hv
      simp [Builtin.delete_, run_underlying hu, MapKept.run_getObj_map hh, hck, hfk, hset, set_self hh]
  · cases hx

theorem newObj_run {o' : Obj} : (newObj o').run P w = .ok w.heap.size { w with heap := w.heap.push o' } := by simp [newObj, Sem.run]

theorem sim_range (H : HRel e B0 h w) {t : TypeId} {x x' : Value} {n : ANext} (hV : VRel e x x')
    (hx : (match (generalizing := false) P.underlying t, x with
    | some .string, .string s => (h.newObj (.strIter s 0)).map fun (h, b) => ANext.value (.pointer (some ⟨b, 0, none⟩)) h
    | some (.map _ _), .map none => (h.newObj (.mapIter none 0 [] 0)).map fun (h, b) => .value (.pointer (some ⟨b, 0, none⟩)) h
    | some (.map _ _), .map (some m) =>
      match h.tree.get m with
      | some (.map _ clock) => (h.newObj (.mapIter (some m) clock [] clock)).map fun (h, b) => .value (.pointer (some ⟨b, 0, none⟩)) h
      | _ => none
    | _, _ => none) = some n) : Out e B0 w n ((do pure (Next.value (← Instr.range t x')) : Sem Next).run P w) := by
  have hgo : ∀ (o : AObj) (o' : Obj) (n : ANext), o.isRow = false → (∀ e', e.le e' → ObjRel e' o o') → ((h.newObj o).map fun (h, b) => ANext.value (.pointer (some ⟨b, 0, none⟩)) h) = some n →
      (Instr.range t x').run P w = ((do pure (.pointer (some ⟨← newObj o', 0, none⟩))) : Sem Value).run P w → Out e B0 w n ((do pure (Next.value (← Instr.range t x')) : Sem Next).run P w) := by
    intro o o' n ho hrel hn hrun
    obtain ⟨⟨h1, b⟩, hn1, rfl⟩ := opt_map_some hn
    obtain ⟨e', hle, H', hloc, hb⟩ := newObj_sim H hn1 ho o' hrel
    have hp : VRel e' (.pointer (some ⟨b, 0, none⟩)) (.pointer (some ⟨w.heap.size, 0 + 0, none⟩)) := .ptr hloc
    refine Out.value ?_ hle hp H' hb
    rw [hrun]
    simp
  split at hx
  · rename_i s hu
    cases hV
    refine hgo (.strIter s 0) (.stringIter s 0) _ rfl (fun e' _ => ⟨rfl, rfl⟩) hx ?_
    simp [Instr.range, run_underlying hu]
  · rename_i hu
    cases hV
    refine hgo (.mapIter none 0 [] 0) (.mapIter none 0 #[] 0) _ rfl (fun e' _ => ⟨trivial, rfl, rfl, rfl⟩) hx ?_
    simp [Instr.range, run_underlying hu]
  · rename_i m hu
    obtain ⟨c, rfl, hl⟩ := hV.map_inv
    split at hx
    case h_2 => cases hx
    rename_i es clock hg
    obtain ⟨es', hh, hE⟩ := H.getMap hl hg
    refine hgo (.mapIter (some m) clock [] clock) (.mapIter (some c) clock #[] clock) _ rfl (fun e' hle => ⟨hle.loc _ _ _ hl, rfl, rfl, rfl⟩) hx ?_
    simp [Instr.range, run_underlying hu, MapKept.run_getObj_map hh]
  · cases hx

theorem filter_rel {f : Nat → Bool} : ∀ {es es' : List MapEntry}, EsRel e es es' → EsRel e (es.filter fun x => f x.born) (es'.filter fun x => f x.born)
  | [], es', hE => by
    have : es' = [] := List.eq_nil_of_length_eq_zero hE.1.symm
    subst this; exact hE
  | x :: es, [], hE => by have := hE.1; simp at this
  | x :: es, y :: es', hE => by
    obtain ⟨h1, h2, h3⟩ := hE.2 0 x y rfl rfl
    have hRt : EsRel e es es' := ⟨by simpa using hE.1, fun i a b ha hb => hE.2 (i + 1) a b ha hb⟩
    have ih := filter_rel (f := f) hRt
    simp only [List.filter_cons, h3]
    split
    · refine ⟨by simp [ih.1], fun i a b ha hb => ?_⟩
      cases i with
      | zero => cases ha; cases hb; exact ⟨h1, h2, h3⟩
      | succ i => exact ih.2 i a b ha hb
    · exact ih

theorem all_born {f : Nat → Bool} : ∀ {es es' : List MapEntry}, EsRel e es es' → (es.all fun x => f x.born) = (es'.all fun x => f x.born)
  | [], es', hE => by
    have : es' = [] := List.eq_nil_of_length_eq_zero hE.1.symm
    subst this; rfl
  | x :: es, [], hE => by have := hE.1; simp at this
  | x :: es, y :: es', hE => by
    obtain ⟨h1, h2, h3⟩ := hE.2 0 x y rfl rfl
    have hRt : EsRel e es es' := ⟨by simpa using hE.1, fun i a b ha hb => hE.2 (i + 1) a b ha hb⟩
    simp only [List.all_cons, h3, all_born (f := f) hRt]

theorem any_contains (l : List Nat) (n : Nat) : (l.any fun b => Nat.beq b n) = l.contains n := by
  induction l with
  | nil => rfl
  | cons a l ih =>
    rw [List.any_cons, List.contains_cons, ih, nbeq]
    have : decide (a = n) = (n == a) := by
      by_cases h : a = n
      · subst h; simp
      · have h2 : ¬ n = a := fun hx => h hx.symm
        simp [h, h2]
    rw [this]

theorem run_getObj_any {c : Nat} {o : Obj} (hh : w.heap[c]? = some o) (hc : ∀ a t f, o ≠ .cells a t f) : (getObj c).run P w = .ok o w := by
  cases o with
  | cells a t f => exact absurd rfl (hc a t f)
  | _ => simp [getObj, Sem.run, hh]

theorem run_setObj_any {c : Nat} {o o2 : Obj} (hh : w.heap[c]? = some o) (hc : ∀ a t f, o ≠ .cells a t f) : (setObj c o2).run P w = .ok () { w with heap := w.heap.setIfInBounds c o2 } := by
  cases o with
  | cells a t f => exact absurd rfl (hc a t f)
  | _ => simp [setObj, Sem.run, hh]

theorem sim_next (H : HRel e B0 h w) {x x' : Value} {isString : Bool} {ty : TypeId} {n : ANext} (hV : VRel e x x')
    (hx : (match (generalizing := false) x with
    | .pointer (some ⟨r, 0, none⟩) =>
      match cond (Nat.ble 1000 r) (h.tree.get r) none, isString with
      | some (.strIter s pos), true =>
        cond (Nat.blt pos s.size)
          (match Utf8.decode s pos with
           | (c, width) => some (ANext.value (.tuple #[.bool true, .int .i64 pos, .int .i32 c]) (h.putObj r (.strIter s (pos + width)))))
          (some (.value (.tuple #[.bool false]) h))
      | some (.mapIter none _ _ _), false => some (.value (.tuple #[.bool false]) h)
      | some (.mapIter (some m) since seen last), false =>
        match h.tree.get m with
        | some (.map es clock) =>
          cond (!seen.isEmpty && !es.isEmpty && es.all fun e => Nat.ble last e.born) none
            (match es.filter fun e => !(seen.any fun b => Nat.beq b e.born) with
             | [] => some (.value (.tuple #[.bool false]) h)
             | [e] => cond (Nat.blt e.born since) (some (.value (.tuple #[.bool true, e.key, e.val]) (h.putObj r (.mapIter (some m) since (seen ++ [e.born]) clock)))) none
             | _ => none)
        | _ => none
      | _, _ => none
    | _ => none) = some n) : Out e B0 w n ((do pure (Next.value (← Instr.next x' isString ty)) : Sem Next).run P w) := by
  split at hx
  case h_2 => cases hx
  rename_i r
  obtain ⟨_, c, d, rfl, hl⟩ := hV.ptr_inv
  have hover : VRel e (.tuple #[.bool false]) (.tuple #[.bool false]) := .tuple' (VsRel.one (.bool _))
  split at hx
  · rename_i s pos hg
    obtain ⟨hlow, hg⟩ := cond_some hg
    simp only [nble, decide_eq_true_eq] at hlow
    have hB := (H.low hl).2 hlow
    obtain ⟨rfl, ⟨o', hh, hO⟩, _⟩ := H.obj hl hg rfl
    cases o' <;> simp only [ObjRel] at hO
    obtain ⟨rfl, rfl⟩ := hO
    have hgo := run_getObj_any (P := P) hh (fun _ _ _ h => by cases h)
    rw [nblt] at hx
    by_cases hp : pos < s.size
    · simp only [hp, decide_true, cond_true, Option.some.injEq] at hx
      subst hx
      refine Out.value ?_ (Env.le_refl e) (.tuple' (VsRel.cons (.bool _) (VsRel.cons (.int _ _) (VsRel.one (.int _ _))))) (H.setObj (o2' := .stringIter s (pos + (Utf8.decode s pos).2)) hl hg rfl rfl ⟨rfl, rfl⟩) (below_set hB _)
      simp [Instr.next, hgo, hp, run_setObj_any hh (fun _ _ _ h => by cases h), goInt]
    · simp only [hp, decide_false, cond_false, Option.some.injEq] at hx
      subst hx
      exact Out.value0 H (by simp [Instr.next, hgo, hp]) hover
  · rename_i since seen last hg
    obtain ⟨hlow, hg⟩ := cond_some hg
    obtain ⟨rfl, ⟨o', hh, hO⟩, _⟩ := H.obj hl hg rfl
    cases o' <;> simp only [ObjRel] at hO
    rename_i m' since' seen' last'
    obtain ⟨hm, _⟩ := hO
    cases m' with
    | some _ => exact hm.elim
    | none =>
      cases hx
      exact Out.value0 H (by simp [Instr.next, run_getObj_any hh (fun _ _ _ h => by cases h)]) hover
  · rename_i m since seen last hg
    obtain ⟨hlow, hg⟩ := cond_some hg
    simp only [nble, decide_eq_true_eq] at hlow
    have hB := (H.low hl).2 hlow
    obtain ⟨rfl, ⟨o', hh, hO⟩, _⟩ := H.obj hl hg rfl
    cases o' <;> simp only [ObjRel] at hO
    rename_i m' since' seen' last'
    obtain ⟨hm, rfl, rfl, rfl⟩ := hO
    cases m' with
    | none => exact hm.elim
    | some m' =>
      have hm : e.loc m = some (m', 0) := hm
      split at hx
      case h_2 => cases hx
      rename_i es clock hgm
      obtain ⟨es', hhm, hE⟩ := H.getMap hm hgm
      have hgo := run_getObj_any (P := P) hh (fun _ _ _ h => by cases h)
      cases hc1 : (!seen'.toList.isEmpty && !es.isEmpty && es.all fun e => Nat.ble last e.born) with
      | true => rw [hc1] at hx; cases hx
      | false =>
        rw [hc1, cond_false] at hx
        have hguard : (!seen'.isEmpty && !es'.isEmpty && es'.all fun x => decide (x.born ≥ last)) = false := by
          have h1 : es'.all (fun x => decide (x.born ≥ last)) = es.all fun e => Nat.ble last e.born := by
            rw [← Array.all_toList, ← all_born (f := fun b => decide (b ≥ last)) hE]
            simp only [nble]
            try rfl
          rw [h1, hE.empty, ← hc1]
          simp
        have hleft := filter_rel (f := fun b => !(seen'.contains b)) hE
        have hf : (es.filter fun e => !(seen'.toList.any fun b => Nat.beq b e.born)) = es.filter fun x => !(seen'.contains x.born) := by
          congr 1
          funext x
          rw [any_contains, Array.contains_toList]
        rw [hf] at hx
        have hleft2 : (es'.filter fun x => !(seen'.contains x.born)).toList = es'.toList.filter fun x => !(seen'.contains x.born) := by simp
        rw [← hleft2] at hleft
        generalize hL : (es'.filter fun x => !(seen'.contains x.born)) = L at hleft
        split at hx
        · rename_i hnil
          rw [hnil] at hleft
          cases hx
          have hL0 : L = #[] := by
            have := hleft.1
            simp at this
            exact Array.eq_empty_of_size_eq_zero this.symm
          subst hL0
          refine Out.value0 H ?_ hover
          simp only [Instr.next, Sem.run_bind, hgo, Result.andThen_ok, MapKept.run_getObj_map hhm, hguard, hL, Bool.false_eq_true, if_false]
          simp [choose, Sem.run, Question.forced]
        · rename_i x hone
          rw [hone] at hleft
          obtain ⟨hlt, hx⟩ := cond_some hx
          simp only [nblt, decide_eq_true_eq] at hlt
          cases hx
          obtain ⟨y, hLy⟩ : ∃ y, L = #[y] := by
            have := hleft.1
            simp at this
            exact Array.size_eq_one_iff.1 this.symm
          subst hLy
          obtain ⟨hk, hv, hb⟩ := hleft.2 0 x y rfl rfl
          have hnew : e.loc m = some (m', 0) := hm
          refine Out.value ?_ (Env.le_refl e) (.tuple' (VsRel.cons (.bool _) (VsRel.cons hk (VsRel.one hv)))) (H.setObj (o2' := .mapIter (some m') since (seen'.push y.born) clock) hl hg rfl rfl ⟨hnew, rfl, by rw [hb]; simp, rfl⟩) (below_set hB _)
          have hlt' : y.born < since := by omega
          have hge' : ¬ since ≤ y.born := by omega
          simp only [Instr.next, Sem.run_bind, hgo, Result.andThen_ok, MapKept.run_getObj_map hhm, hguard, hL, Bool.false_eq_true, if_false]
          simp [choose, Sem.run, Question.forced, hlt', hge', hh, setObj]
        · cases hx
  · cases hx

theorem sim_entry (H : HRel e B0 h w) {x x' : Value} {n : ANext} (hV : VRel e x x')
    (hx : (match (generalizing := false) x with
    | .pointer (some ⟨r, 0, none⟩) =>
      match h.tree.get r with
      | some (.mapIter (some m) _ seen stepped) =>
        match h.tree.get m, seen.getLast? with
        | some (.map es clock), some stamp =>
          cond (Nat.beq clock stepped) (match es.find? fun e => Nat.beq e.born stamp with | some e => some (ANext.value (.tuple #[e.key, e.val]) h) | none => none) none
        | _, _ => none
      | _ => none
    | _ => none) = some n) : Out e B0 w n ((do pure (Next.value (← Instr.entry x')) : Sem Next).run P w) := by
  split at hx
  case h_2 => cases hx
  rename_i r
  obtain ⟨_, c, d, rfl, hl⟩ := hV.ptr_inv
  split at hx
  case h_2 => cases hx
  rename_i m since seen stepped hg
  obtain ⟨rfl, ⟨o', hh, hO⟩, _⟩ := H.obj hl hg rfl
  cases o' <;> simp only [ObjRel] at hO
  rename_i m' since' seen' last'
  obtain ⟨hm, rfl, rfl, rfl⟩ := hO
  cases m' with
  | none => exact hm.elim
  | some m' =>
    have hm : e.loc m = some (m', 0) := hm
    split at hx
    case h_2 => cases hx
    rename_i es clock stamp hgm hs
    obtain ⟨es', hhm, hE⟩ := H.getMap hm hgm
    obtain ⟨hcl, hx⟩ := cond_some hx
    simp only [nbeq, decide_eq_true_eq] at hcl
    split at hx
    case h_2 => cases hx
    rename_i x hf
    cases hx
    have hfind : ∀ (es es' : List MapEntry), EsRel e es es' → ∀ x, (es.find? fun e => Nat.beq e.born stamp) = some x → ∃ y, (es'.find? fun e => e.born == stamp) = some y ∧ VRel e x.key y.key ∧ VRel e x.val y.val := by
      intro es
      induction es with
      | nil => intro es' _ x hx; cases hx
      | cons a es ih =>
        intro es' hE x hx
        cases es' with
        | nil => have := hE.1; simp at this
        | cons b es' =>
          obtain ⟨h1, h2, h3⟩ := hE.2 0 a b rfl rfl
          have hRt : EsRel e es es' := ⟨by simpa using hE.1, fun i a b ha hb => hE.2 (i + 1) a b ha hb⟩
          rw [List.find?_cons, nbeq, h3] at hx
          rw [List.find?_cons]
          by_cases hst : b.born = stamp
          · simp only [hst, decide_true, beq_self_eq_true] at hx ⊢
            cases hx
            exact ⟨b, rfl, h1, h2⟩
          · have hst2 : (b.born == stamp) = false := by simpa using hst
            simp only [hst, decide_false] at hx
            simp only [hst2]
            exact ih es' hRt x hx
    obtain ⟨y, hy, hk, hv⟩ := hfind _ _ hE _ hf
    have hback : seen'.back? = some stamp := by rw [← hs]; simp
    have hfa : es'.find? (fun x => x.born == stamp) = some y := by rw [← Array.find?_toList]; exact hy
    refine Out.value0 H ?_ (.tuple' (VsRel.cons hk (VsRel.one hv)))
    have hne : (clock != stepped) = false := by simp [hcl]
    simp only [Instr.entry, Sem.run_bind, run_getObj_any hh (fun _ _ _ h => by cases h), Result.andThen_ok, hback, MapKept.run_getObj_map hhm, hne, hfa, Bool.false_eq_true, if_false]
    simp
end
end Go.AM

namespace Go.AM
open Go Go.RowKit

section
variable {P : Program} {X : FuncId → List Value → Option Value} {e : Env} {B0 : Nat} {h : AH} {w : World} {ρ ρ' : Operand → Value}

theorem lenOf_sim {x x' : Value} {n : Nat} (hn : lenOfA x = some n) (hV : VRel e x x') : (Builtin.lenOf x').run P w = .ok n w := by
  cases hV <;> simp only [lenOfA] at hn <;> try (cases hn; done)
  all_goals (cases hn; simp [Builtin.lenOf])

theorem first_sim (H : HRel e B0 h w) {x x' : Value} {n m size : Nat} {new : List Value} (hn : lenOfA x = some m) (hm : n ≤ m) (hf : firstA h n size x = some new) (hV : VRel e x x') :
    ∃ new', VsRel e new new' ∧ ∀ w' : World, w'.heap = w.heap → (Builtin.firstCells size n x').run P w' = .ok new'.toArray w' := by
  cases hV <;> simp only [firstA] at hf <;> try (cases hf; done)
  · rename_i s
    cases hf
    have hs : (s.extract 0 n).data.toList = s.data.toList.take n := by
      rw [ByteArray.data_extract, Array.toList_extract]; simp
    have hmm : ((s.data.toList.take n).map fun b => (Value.int .u8 b.toNat)) = ((s.data.toList.take n).map fun b => (b.toNat : Int)).map (Value.int .u8) := by rw [List.map_map]; rfl
    rw [hmm]
    refine ⟨_, VsRel.same_ints _, fun w' _ => ?_⟩
    simp only [Builtin.firstCells, Sem.run_pure]
    congr 1
    apply Array.ext'
    simp only [Array.toList_map, hs, List.map_map]
    rfl
  · cases hf
    exact ⟨[], VsRel.nil, fun w' _ => by simp [Builtin.firstCells]⟩
  · rename_i b c d o k cap cap' hl hc hs
    by_cases h0 : n = 0
    · subst h0
      simp only [nbeq, decide_true, cond_true, Option.some.injEq] at hf
      subst hf
      exact ⟨[], VsRel.nil, fun w' _ => by simp [Builtin.firstCells, loadCells, loadCellsFrom]⟩
    · simp only [nbeq, h0, decide_false, cond_false] at hf
      obtain ⟨cs', hr, hlen, hcell⟩ := H.cellsAt hl hf
      exact ⟨cs', hr, fun w' hw' => run_firstCells_some w' size n _ _ _ cs' hlen (fun j v hj => by have := hcell j v hj; unfold World.cell? at this ⊢; rw [hw']; exact this)⟩
  · simp only [lenOfA, Option.some.injEq] at hn
    have h0 : n = 0 := by omega
    subst h0
    simp only [nbeq, decide_true, cond_true, Option.some.injEq] at hf
    subst hf
    exact ⟨[], VsRel.nil, fun w' _ => by simp [Builtin.firstCells, loadCells, loadCellsFrom]⟩

theorem append_room_run {t u ty el : TypeId} {du : TypeDesc} {more : List TypeId} {i : TypeInfo} {base : Option Addr} {sLen sCap n : Nat} {x' : Value} {new' : List Value} {w2 : World}
    (ht : P.underlying t = some (.slice el)) (hu : P.underlying u = some du) (hdu : ∀ k, du ≠ .int k) (hi : P.info? el = some i)
    (hlen : (Builtin.lenOf x').run P w = .ok n w) (hcells : (Builtin.firstCells i.size n x').run P w = .ok new'.toArray w) (hroom : sLen + n ≤ sCap)
    (hst : match base with | some a => (storeCells (a.add (sLen * i.size)) new').run P w = .ok () w2 | none => w2 = w) :
    (Builtin.append_ ⟨t :: u :: more⟩ ty ⟨[.slice base sLen sCap, x']⟩).run P w = .ok (.slice base (sLen + n) sCap) w2 := by
  have hz : (match du with | .int _ => true | _ => false) = false := by
    cases du <;> first | rfl | exact absurd rfl (hdu _)
  cases base with
  | some a =>
    simp only [] at hst
    simp [Builtin.append_, run_underlying ht, run_underlying hu, Go.sizeOf, typeInfo, hi, hlen, hcells, hroom, hst]
  | none =>
    simp only [] at hst
    subst hst
    simp [Builtin.append_, run_underlying ht, run_underlying hu, Go.sizeOf, typeInfo, hi, hlen, hcells, hroom]

theorem append_grow_run {t u ty el : TypeId} {du : TypeDesc} {more : List TypeId} {i : TypeInfo} {z : Value} {base : Option Addr} {sLen sCap n : Nat} {x' : Value} {new' old' : List Value}
    (ht : P.underlying t = some (.slice el)) (hu : P.underlying u = some du) (hdu : ∀ k, du ≠ .int k) (hi : P.info? el = some i) (hzz : i.zero = some z) (hzs : z.cells.size = i.size)
    (hlen : (Builtin.lenOf x').run P w = .ok n w) (hcells : ∀ w' : World, w'.heap = w.heap → (Builtin.firstCells i.size n x').run P w' = .ok new'.toArray w')
    (hold : ∀ w' : World, w'.heap = w.heap → (Builtin.firstCells i.size sLen (.slice base sLen sCap)).run P w' = .ok old'.toArray w')
    (hlo : old'.length = sLen * i.size) (hln : new'.length = n * i.size)
    (hgrow : sCap < sLen + n) (hsmall : sLen + n ≤ 1073741824) (hbytes : (sLen + n) * i.bytes ≤ 1073741824) :
    ∃ w1 cap arr, w1 = { w with drawn := w.drawn + 1 } ∧ sLen + n ≤ cap ∧ arr.size = cap * i.size ∧ (∃ rest, arr.toList = old' ++ new' ++ rest) ∧
    (Builtin.append_ ⟨t :: u :: more⟩ ty ⟨[.slice base sLen sCap, x']⟩).run P w = .ok (.slice (some ⟨w1.heap.size, 0, none⟩) (sLen + n) cap) { w1 with heap := w1.heap.push (.cells arr el) } := by
  have hz : (match du with | .int _ => true | _ => false) = false := by
    cases du <;> first | rfl | exact absurd rfl (hdu _)
  have hn : ¬ (sLen + n ≤ sCap) := by omega
  have h63 : ¬ (9223372036854775807 < ((sLen : Int) + (n : Int))) := by omega
  have h48 : ¬ (281474976710656 < Builtin.nextslicecap (sLen + n) sCap * i.bytes) := by
    have h1 := nextslicecap_le hgrow
    have h2 : Builtin.nextslicecap (sLen + n) sCap * i.bytes ≤ (2 * (sLen + n)) * i.bytes := Nat.mul_le_mul_right _ h1
    rw [Nat.mul_assoc] at h2
    omega
  have hq : (choose (.appendCap (sLen + n) sCap el)).run P w = .ok ((sLen + n) + w.tape w.drawn (.appendCap (sLen + n) sCap el) % (2 ^ 63 - (sLen + n))) { w with drawn := w.drawn + 1 } := rfl
  generalize hcap : (sLen + n) + w.tape w.drawn (.appendCap (sLen + n) sCap el) % (2 ^ 63 - (sLen + n)) = cap at hq
  have hge : sLen + n ≤ cap := by omega
  refine ⟨_, cap, old'.toArray ++ new'.toArray ++ Builtin.zeroCells z.cells (cap - (sLen + n)), rfl, hge, ?_, ⟨(Builtin.zeroCells z.cells (cap - (sLen + n))).toList, by simp⟩, ?_⟩
  · simp only [Array.size_append, List.size_toArray, Builtin.zeroCells, Array.size_map, Array.size_range, hzs, hlo, hln, ← Nat.add_mul]
    congr 1; omega
  · have e1 := hold w.drew rfl
    have e2 := hcells w.drew rfl
    have hf : (Question.appendCap (sLen + n) sCap el).forced = false := rfl
    have hcut : (Question.appendCap (sLen + n) sCap el).cut (w.tape w.drawn (Question.appendCap (sLen + n) sCap el)) = cap := hcap
    have e3 : ∀ w', (zeroValue el).run P w' = .ok z w' := fun w' => by simp [zeroValue, typeInfo, hi, hzz]
    simp [Builtin.append_, run_underlying ht, run_underlying hu, Go.sizeOf, typeInfo, hi, hlen, hn, h63, h48, hf, hcut, run_askRoom, e1, e2, e3, newRow]
    have hAB : old'.toArray ++ (new'.toArray ++ Builtin.zeroCells z.cells (cap - (sLen + n))) = (old' ++ new').toArray ++ Builtin.zeroCells z.cells (cap - (sLen + n)) := by
      apply Array.ext'
      simp only [Array.toList_append, List.append_assoc]
    rw [hAB]
    rfl
end
end Go.AM

namespace Go.AM
open Go Go.RowKit

section
variable {P : Program} {X : FuncId → List Value → Option Value} {e : Env} {B0 : Nat} {h : AH} {w : World} {ρ ρ' : Operand → Value}

theorem growRow_parts {b off k es next : Nat} {new : List Value} {h' : AH} (hg : h.growRow b off k es new = some (h', next)) :
    ∃ cs size fam delta fams, h.tree.get b = some (.row cs size es fam delta) ∧ h.next < 1000000000 ∧ 1000 ≤ b ∧ off + k ≤ size ∧ h.readable b fam = true ∧ new.all plainCell = true ∧
      h.growFam b fam (delta + size) (delta + off + k) = some fams ∧ next = h.next ∧
      h' = { tree := PT.set 64 h.tree h.next (.row ((cs.drop off).take k ++ new) (k + new.length) es fam (delta + off)), fams, next := h.next + 1 } := by
  unfold AH.growRow at hg
  split at hg
  case h_2 => cases hg
  rename_i cs size es' fam delta ht
  obtain ⟨hc, hg⟩ := cond_some hg
  obtain ⟨fams, hf, hg⟩ := opt_map_some hg
  simp only [Bool.and_eq_true, nblt, nble, nbeq, decide_eq_true_eq] at hc
  obtain ⟨⟨⟨⟨⟨h1, h2⟩, h3⟩, h4⟩, h5⟩, h6⟩ := hc
  cases hg
  subst h3
  exact ⟨cs, size, fam, delta, fams, ht, h1, h2, h4, h5, h6, hf, rfl, rfl⟩

theorem sim_append (H : HRel e B0 h w) {t u ty : TypeId} {du : TypeDesc} {more : List TypeId} {s s' x x' v : Value} {h' : AH} (hu : P.underlying u = some du) (hdu : ∀ k, du ≠ .int k)
    (hS : VRel e s s') (hX : VRel e x x') (hx : appendA P h t s x = some (v, h')) :
    Out e B0 w (.value v h') ((do pure (Next.value (← Builtin.append_ ⟨t :: u :: more⟩ ty ⟨[s', x']⟩)) : Sem Next).run P w) := by
  unfold appendA at hx
  split at hx
  case h_2 => cases hx
  rename_i el base len cap ht
  split at hx
  case h_2 => cases hx
  rename_i i n hi hn
  obtain ⟨new, hnew, hx1⟩ := opt_bind_some hx
  clear hx
  have hx := hx1
  clear hx1
  have hlen := fun w => lenOf_sim (P := P) (w := w) hn hX
  obtain ⟨new', hnr, hnrun⟩ := first_sim (P := P) H hn (Nat.le_refl _) hnew hX
  rw [nble] at hx
  by_cases hroom : len + n ≤ cap
  · simp only [hroom, decide_true, cond_true] at hx
    cases hS with
    | slnil =>
      simp only [] at hx
      by_cases h0 : n = 0
      · subst h0
        simp only [nbeq, decide_true, cond_true, Option.some.injEq, Prod.mk.injEq] at hx
        obtain ⟨rfl, rfl⟩ := hx
        exact Out.value0 H (append_room_run ht hu hdu hi (hlen w) (hnrun w rfl) hroom rfl) (.slnil _ _)
      · simp only [nbeq, h0, decide_false, cond_false] at hx; cases hx
    | @slend a a' ha =>
      simp only [] at hx
      have h0 : n = 0 := by omega
      subst h0
      simp only [nbeq, decide_true, cond_true, Option.some.injEq, Prod.mk.injEq] at hx
      obtain ⟨rfl, rfl⟩ := hx
      have hnil : new' = [] := by
        have : new = [] := by
          cases x <;> simp only [lenOfA] at hn <;> try (cases hn; done)
          · rename_i str
            simp only [firstA, List.take_zero, List.map_nil, Option.some.injEq] at hnew; exact hnew.symm
          · rename_i ao k cp
            cases ao <;> simp [firstA] at hnew <;> exact hnew
        subst this; exact hnr.nil_left
      subst hnil
      exact Out.value0 H (append_room_run ht hu hdu hi (hlen w) (hnrun w rfl) hroom (by simp [storeCells])) (.slend _ ha)
    | @sl b c d o _ _ cap' hl hc hs =>
      simp only [] at hx
      by_cases h0 : n = 0
      · subst h0
        simp only [nbeq, decide_true, cond_true, Option.some.injEq, Prod.mk.injEq] at hx
        obtain ⟨rfl, rfl⟩ := hx
        have hnil : new' = [] := by
          have : new = [] := by
            cases x <;> simp only [lenOfA] at hn <;> try (cases hn; done)
            · rename_i str
              simp only [firstA, List.take_zero, List.map_nil, Option.some.injEq] at hnew; exact hnew.symm
            · rename_i ao k cp
              cases ao <;> simp [firstA] at hnew <;> exact hnew
          subst this; exact hnr.nil_left
        subst hnil
        exact Out.value0 H (append_room_run ht hu hdu hi (hlen w) (hnrun w rfl) (by omega) (by simp [storeCells])) (.sl hl hc hs)
      · simp only [nbeq, h0, decide_false, cond_false] at hx
        obtain ⟨h1, hst, hx⟩ := opt_map_some hx
        cases hx
        obtain ⟨arr, tt, fz, hh, hfit, hth, hpl, hB, _, H'⟩ := H.store hl hst hnr
        have hrun := run_storeCells P c (d + (o + len * i.size)) tt fz new' w arr 0 hh hpl (by omega) hth
        refine Out.value (append_room_run ht hu hdu hi (hlen w) (hnrun w rfl) (by omega) ?_) (Env.le_refl e) (.sl hl hc hs) H' (below_putRow hB _ _ _)
        simp only [Addr.add_lit]
        rw [Nat.add_zero] at hrun
        rw [Nat.add_assoc]
        exact hrun
  · simp only [hroom, decide_false, cond_false] at hx
    obtain ⟨hcnd, hx1⟩ := cond_some hx
    clear hx
    have hx := hx1
    clear hx1
    simp only [Bool.and_eq_true, nble, nblt, nbeq, decide_eq_true_eq] at hcnd
    obtain ⟨⟨⟨⟨hby, hsm⟩, hpos⟩, hnlen⟩, hzok⟩ := hcnd
    have hz : ∃ z, i.zero = some z ∧ z.cells.size = i.size := by
      split at hzok
      · rename_i z hz
        obtain ⟨zv, hzv, rfl⟩ := opt_map_some hz
        obtain ⟨it, hit, hzz⟩ := zeroVal_info hzv
        rw [hi] at hit; cases hit
        exact ⟨zv, hzz, by simpa using hzok⟩
      · cases hzok
    obtain ⟨z, hzz, hzs⟩ := hz
    have hnl : ∀ (m : Nat), new.length = m → new'.length = m := fun m hm => by rw [← hnr.1, hm]
    have hbelow : ∀ (o : Obj), Below B0 w { ({ w with drawn := w.drawn + 1 } : World) with heap := w.heap.push o } := fun o => ⟨rfl, rfl, rfl, by simp, fun k hk => by
      have := H.base.2.2
      simp only []
      rw [Array.getElem?_push, if_neg (by omega)]⟩
    -- a wholly new row
    have hfresh : ∀ (base' : Option Addr) (cap' : Nat) (h1 : AH) (b1 : Nat), cap' < 0 + n → h.newRow new (n * i.size) i.size = some (h1, b1) →
        Out e B0 w (.value (.slice (some ⟨b1, 0, none⟩) n n) h1) ((do pure (Next.value (← Builtin.append_ ⟨t :: u :: more⟩ ty ⟨[.slice base' 0 cap', x']⟩)) : Sem Next).run P w) := by
      intro base' cap' h1 b1 hg hn1
      obtain ⟨w1, cp, arr, rfl, hge, hsz, ⟨rest, harr⟩, hrun⟩ := append_grow_run (P := P) (w := w) (ty := ty) (more := more) (base := base') (sLen := 0) (sCap := cap') (x' := x') (new' := new') (old' := []) ht hu hdu hi hzz hzs (hlen w) hnrun
        (fun w' _ => by cases base' <;> simp [Builtin.firstCells, loadCells, loadCellsFrom]) (by simp) (hnl _ hnlen) hg (by omega) (by
          have : (0 + n) * i.bytes ≤ (len + n) * i.bytes := Nat.mul_le_mul_right _ (by omega)
          omega)
      rw [Nat.zero_add] at hge hrun
      have hmul : n * i.size ≤ cp * i.size := Nat.mul_le_mul_right _ hge
      obtain ⟨e', hle, H', hloc, hes, hszz, hb⟩ := newRow_sim H.drew hn1 arr el (0, 0) (thawed0 _) (by omega) (fun j v hj => by
        obtain ⟨v', h1, h2⟩ := hnr.get hj
        refine ⟨v', ?_, h2⟩
        rw [← Array.getElem?_toList, harr, List.nil_append, List.getElem?_append_left]
        · exact h1
        · rcases Nat.lt_or_ge j new'.length with h | h
          · exact h
          · rw [List.getElem?_eq_none h] at h1; cases h1)
      have hp : VRel e' (.slice (some ⟨b1, 0, none⟩) n n) (.slice (some ⟨w.heap.size, 0 + 0, none⟩) n cp) := by
        refine .sl hloc hge (.inr (.inr ?_))
        rw [hes]
        have : e'.sz w.heap.size = arr.size := hszz
        rw [this, hsz]; omega
      exact Out.value hrun hle hp H' (hbelow _)
    -- a row that goes on from an old one
    have hgrown : ∀ (b o c d cap' b1 : Nat) (a' : Addr) (h1 : AH), e.loc b = some (c, d) → h.growRow b o (len * i.size) i.size new = some (h1, b1) → cap' < len + n →
        (len = 0 ∨ a' = ⟨c, d + o, none⟩) →
        Out e B0 w (.value (.slice (some ⟨b1, 0, none⟩) (len + n) (len + n)) h1) ((do pure (Next.value (← Builtin.append_ ⟨t :: u :: more⟩ ty ⟨[.slice (some a') len cap', x']⟩)) : Sem Next).run P w) := by
      intro b o c d cap' b1 a' h1 hl hgr hg ha'
      obtain ⟨cs, size, fam, delta, fams, htree, hnx, hb1000, hoff, hread, hplain, hfam, rfl, rfl⟩ := growRow_parts hgr
      have R := H.row hl htree
      have hca : h.cellsAt b o (len * i.size) = some ((cs.drop o).take (len * i.size)) := by
        unfold AH.cellsAt
        simp only [htree, hread, nble, hoff, decide_true, cond_true]
      obtain ⟨cs', hcr, hcl, hcell⟩ := H.cellsAt hl hca
      obtain ⟨w1, cp, arr, rfl, hge, hsz, ⟨rest, harr⟩, hrun⟩ := append_grow_run (P := P) (w := w) (ty := ty) (more := more) (base := some a') (sLen := len) (sCap := cap') (x' := x') (new' := new') (old' := cs') ht hu hdu hi hzz hzs (hlen w) hnrun
        (fun w' hw' => by
          rcases ha' with h0 | ha'
          · subst h0
            have : cs' = [] := List.eq_nil_of_length_eq_zero (by rw [hcl]; simp)
            subst this
            simp [Builtin.firstCells, loadCells, loadCellsFrom]
          · rw [ha']
            exact run_firstCells_some w' _ _ _ _ _ cs' hcl (fun j v hj => by have := hcell j v hj; unfold World.cell? at this ⊢; rw [hw']; exact this)) hcl (hnl _ hnlen) hg (by omega) (by omega)
      have hall : VsRel e ((cs.drop o).take (len * i.size) ++ new) (cs' ++ new') := hcr.append hnr
      have hmul : (len + n) * i.size ≤ cp * i.size := Nat.mul_le_mul_right _ hge
      have hlowH := H.low hl
      have hklen : ((cs.drop o).take (len * i.size)).length = len * i.size := by
        have := hcr.1; rw [hcl] at this; exact this
      have htot : len * i.size + new.length = (len + n) * i.size := by rw [hnlen, Nat.add_mul]
      obtain ⟨hle, H'⟩ := HRel.growRow H.drew hl htree hfam hnx w.heap.size 0 arr.size { ({ w with drawn := w.drawn + 1 } : World) with heap := w.heap.push (.cells arr el) } (by simp)
        (fun c2 hc2 hlt => by simp only []; rw [Array.getElem?_push, if_neg (by omega)]) arr el (0, 0) (by simp) rfl (thawed0 _)
        (fun j v hj => by
          obtain ⟨v', h1, h2⟩ := hall.get hj
          refine ⟨v', ?_, h2⟩
          rw [Nat.zero_add, ← Array.getElem?_toList, harr, List.getElem?_append_left]
          · exact h1
          · rcases Nat.lt_or_ge j (cs' ++ new').length with h | h
            · exact h
            · rw [List.getElem?_eq_none h] at h1; cases h1)
        (fun arr2 t2 fz2 hh => by have := lt_of_heap hh; simp at this)
        (fun b2 d2 hb2 => by have := (H.low hb2).1; omega) H.base.2.2 (total := len * i.size + new.length) (by rw [htot]; omega) (by rw [List.length_append, hklen]) _ rfl
      have hp : VRel (e.ext h.next w.heap.size 0 fam (delta + o) (len * i.size + new.length) i.size arr.size) (.slice (some ⟨h.next, 0, none⟩) (len + n) (len + n)) (.slice (some ⟨w.heap.size, 0 + 0, none⟩) (len + n) cp) := by
        refine .sl (by simp [Env.ext]) hge (.inr (.inr ?_))
        simp only [Env.ext, if_true]
        omega
      exact Out.value hrun hle hp H' (hbelow _)
    cases hS with
    | slnil =>
      simp only [] at hx
      obtain ⟨h0, hx⟩ := cond_some hx
      simp only [nbeq, decide_eq_true_eq] at h0
      subst h0
      obtain ⟨⟨h1, b1⟩, hn1, hx⟩ := opt_map_some hx
      cases hx
      have := hfresh none cap h1 b1 (by omega) hn1
      simpa using this
    | @slend a a' ha =>
      simp only [] at hx
      cases hzq : (Nat.beq a.block zaddr.block && Nat.beq 0 0) with
      | true =>
        rw [hzq, cond_true] at hx
        obtain ⟨⟨h1, b1⟩, hn1, hx⟩ := opt_map_some hx
        cases hx
        exact hfresh (some a') 0 h1 b1 (by omega) hn1
      | false =>
        rw [hzq, cond_false] at hx
        obtain ⟨⟨h1, b1⟩, hn1, hx⟩ := opt_map_some hx
        cases hx
        rcases ha with rfl | ⟨⟨c, d⟩, hl⟩
        · simp at hzq
        · exact hgrown a.block a.off c d 0 b1 a' h1 hl hn1 (by omega) (.inl rfl)
    | @sl b c d o _ _ cap' hl hc hs =>
      simp only [] at hx
      have hbn := H.lt hl
      have hnz : (Nat.beq b zaddr.block && Nat.beq len 0) = false := by
        have : b ≠ zaddr.block := by have := H.base.2.1; show b ≠ 1000000000; omega
        simp [nbeq, this]
      rw [hnz, cond_false] at hx
      obtain ⟨⟨h1, b1⟩, hn1, hx⟩ := opt_map_some hx
      cases hx
      by_cases hin : len + n ≤ cap'
      · obtain ⟨cs, size, fam, delta, fams, htree, hnx, hb1000, hoff, hread, hplain, hfam, rfl, rfl⟩ := growRow_parts hn1
        have R := H.row hl htree
        obtain ⟨arr, tt, fz, hh, hasz, hth, hcell⟩ := R.cells
        have hes := R.es
        have hroom2 : d + o + cap' * i.size ≤ e.sz c := by
          rcases hs with hs | hs | hs
          · omega
          · omega
          · rw [hes] at hs; exact hs
        have hmul : (len + n) * i.size ≤ cap' * i.size := Nat.mul_le_mul_right _ hin
        have hnl' := hnl _ hnlen
        have htot : len * i.size + n * i.size = (len + n) * i.size := by rw [Nat.add_mul]
        have hplain' : new'.all plainCell = true := hnr.plain hplain
        have hrun := run_storeCells P c (d + (o + len * i.size)) tt fz new' w arr 0 hh hplain' (by omega) hth
        rw [Nat.add_zero] at hrun
        have hB := (H.low hl).2 hb1000
        have hcs := R.length
        have hfits := R.fits
        have hgetw : ∀ j, (writeAt arr (d + (o + len * i.size)) new')[j]? = if d + (o + len * i.size) ≤ j ∧ j < d + (o + len * i.size) + new'.length then new'[j - (d + (o + len * i.size))]? else arr[j]? := fun j => getElem?_writeAt _ _ _ _ (by omega)
        obtain ⟨hle, H'⟩ := HRel.growRow (cells := (cs.drop o).take (len * i.size) ++ new) H hl htree hfam hnx c (d + o) (e.sz c) (putRow w c (writeAt arr (d + (o + len * i.size)) new') tt fz) (by rw [size_putRow]; exact Nat.le_refl _)
          (fun c2 hc2 _ => by rw [heap_putRow, if_neg (by omega)]) (writeAt arr (d + (o + len * i.size)) new') tt fz (by rw [heap_putRow, if_pos ⟨rfl, lt_of_heap hh⟩]) (by rw [size_writeAt]; exact hasz) (by unfold Thawed at hth ⊢; rw [size_writeAt]; exact hth)
          (fun j v hj => by
            rw [hgetw]
            have hjl : ((cs.drop o).take (len * i.size)).length = len * i.size := by simp; omega
            by_cases hjk : j < len * i.size
            · rw [if_neg (by omega)]
              rw [List.getElem?_append_left (by rw [hjl]; exact hjk), List.getElem?_take, if_pos hjk, List.getElem?_drop] at hj
              obtain ⟨v', h1, h2⟩ := hcell hread _ _ hj
              exact ⟨v', by rw [Nat.add_assoc]; exact h1, h2⟩
            · rw [List.getElem?_append_right (by omega), hjl] at hj
              obtain ⟨v', h1, h2⟩ := hnr.get hj
              have hlt : j - len * i.size < new'.length := by
                rcases Nat.lt_or_ge (j - len * i.size) new'.length with h | h
                · exact h
                · rw [List.getElem?_eq_none h] at h1; cases h1
              rw [if_pos (by omega)]
              exact ⟨v', by rw [show d + o + j - (d + (o + len * i.size)) = j - len * i.size by omega]; exact h1, h2⟩)
          (fun arr2 t2 fz2 hh2 => by
            rw [hh] at hh2; cases hh2
            refine ⟨size_writeAt _ _ _, fun j hj => ?_⟩
            rw [hgetw, if_neg (by omega)])
          (fun b2 d2 hb2 => by
            obtain ⟨s1, s2⟩ := H.sep hl hb2
            have r1 := R.fam
            have r2 := R.delta
            exact ⟨by rw [← s1, r1], by omega, rfl⟩)
          hB (total := len * i.size + new.length) (by rw [hnlen]; omega) (by simp; omega) _ rfl
        have hp : VRel (e.ext h.next c (d + o) fam (delta + o) (len * i.size + new.length) i.size (e.sz c)) (.slice (some ⟨h.next, 0, none⟩) (len + n) (len + n)) (.slice (some ⟨c, (d + o) + 0, none⟩) (len + n) cap') := by
          refine .sl (by simp [Env.ext]) hin (.inr (.inr ?_))
          simp only [Env.ext, if_true]
          omega
        refine Out.value (append_room_run ht hu hdu hi (hlen w) (hnrun w rfl) hin ?_) hle hp H' (below_putRow hB _ _ _)
        simp only [Addr.add_lit, Nat.add_assoc]
        exact hrun
      · exact hgrown b o c d cap' b1 _ h1 hl hn1 (by omega) (.inr rfl)
end
end Go.AM

namespace Go.AM
open Go Go.RowKit

section
variable {P : Program} {X : FuncId → List Value → Option Value} {e : Env} {B0 : Nat} {h : AH} {w : World} {ρ ρ' : Operand → Value}

theorem firstA_zero {s : Value} {size : Nat} {cs : List Value} (hcs : firstA h 0 size s = some cs) : cs = [] := by
  unfold firstA at hcs
  split at hcs
  · simpa using hcs.symm
  · simpa using hcs.symm
  · simpa using hcs.symm
  · cases hcs

theorem sim_len (H : HRel e B0 h w) {t ty : TypeId} {more : List TypeId} {x x' : Value} {rest : List Value} {n : Nat} (hV : VRel e x x') (hx : lenA P t h x = some n) :
    Out e B0 w (.value (.int .i64 n) h) ((do pure (Next.value (← Builtin.len_ ⟨t :: more⟩ ty ⟨x' :: rest⟩)) : Sem Next).run P w) := by
  unfold lenA at hx
  split at hx
  · rename_i s hu
    cases hV; cases hx
    exact Out.value0 H (by simp [Builtin.len_, run_underlying hu, goInt]) (.int _ _)
  · rename_i k el hu
    cases hx
    exact Out.value0 H (by simp [Builtin.len_, run_underlying hu, goInt]) (.int _ _)
  · rename_i arr hu
    split at hx
    · rename_i k el hu2
      cases hx
      exact Out.value0 H (by simp [Builtin.len_, run_underlying hu, run_underlying hu2, goInt]) (.int _ _)
    · cases hx
  · rename_i el a k cap hu
    cases hx
    cases hV <;> exact Out.value0 H (by simp [Builtin.len_, run_underlying hu, goInt]) (.int _ _)
  · rename_i kt el hu
    cases hV; cases hx
    exact Out.value0 H (by simp [Builtin.len_, run_underlying hu, goInt]) (.int _ _)
  · rename_i kt el r hu
    obtain ⟨c, rfl, hl⟩ := hV.map_inv
    split at hx
    case h_2 => cases hx
    rename_i es clock hg
    cases hx
    obtain ⟨es', hh, hE⟩ := H.getMap hl hg
    have hsz : es'.size = es.length := by have := hE.1; simp at this; exact this.symm
    exact Out.value0 H (by simp [Builtin.len_, run_underlying hu, goInt, MapKept.run_getObj_map hh, hsz]) (.int _ _)
  · cases hx

theorem sim_copy (H : HRel e B0 h w) {t ty : TypeId} {more : List TypeId} {d d' s s' : Value} {n : ANext} (hD : VRel e d d') (hS : VRel e s s')
    (hx : (match (generalizing := false) P.underlying t, d, lenOfA s with
    | some (.slice el), .slice base dLen _, some sLen =>
      let n := Nat.min sLen dLen
      (Go.AM.sizeOf P el).bind fun size => (firstA h n size s).bind fun cs =>
        match base with
        | some a => cond (Nat.beq n 0) (some (ANext.value (.int .i64 n) h)) ((h.storeAt a.block a.off cs).map fun h => .value (.int .i64 n) h)
        | none => some (.value (.int .i64 n) h)
    | _, _, _ => none) = some n) : Out e B0 w n ((do pure (Next.value (← Builtin.copy_ ⟨t :: more⟩ ty ⟨[d', s']⟩)) : Sem Next).run P w) := by
  split at hx
  case h_2 => cases hx
  rename_i el base dLen cap sLen hu hsl
  simp only [] at hx
  obtain ⟨size, hsz, hx⟩ := opt_bind_some hx
  obtain ⟨cs, hcs, hx⟩ := opt_bind_some hx
  have hlen := lenOf_sim (P := P) (w := w) hsl hS
  obtain ⟨cs', hcr, hcrun0⟩ := first_sim (P := P) H hsl (show Nat.min sLen dLen ≤ sLen from Nat.min_le_left sLen dLen) hcs hS
  have hcrun := hcrun0 w rfl
  clear hcrun0
  generalize hk : Nat.min sLen dLen = k at *
  have hk2 : sLen.min dLen = k := hk
  have hrunS : ∀ (a : Addr) (cap' : Nat) (w2 : World), (storeCells a cs').run P w = .ok () w2 → (Builtin.copy_ ⟨t :: more⟩ ty ⟨[.slice (some a) dLen cap', s']⟩).run P w = .ok (.int .i64 k) w2 := by
    intro a cap' w2 hst
    simp [Builtin.copy_, run_underlying hu, hlen, hk2, sizeOf_run hsz, hcrun, hst, goInt]
  cases base with
  | none =>
    simp only [Option.some.injEq] at hx
    subst hx
    cases hD
    exact Out.value0 H (by simp [Builtin.copy_, run_underlying hu, hlen, hk2, sizeOf_run hsz, hcrun, goInt]) (.int _ _)
  | some a =>
    simp only [] at hx
    by_cases h0 : k = 0
    · subst h0
      simp only [nbeq, decide_true, cond_true, Option.some.injEq] at hx
      subst hx
      have hnil : cs' = [] := by
        have : cs = [] := firstA_zero hcs
        subst this; exact hcr.nil_left
      subst hnil
      cases hD <;> exact Out.value0 H (hrunS _ _ w (by simp [storeCells])) (.int _ _)
    · simp only [nbeq, h0, decide_false, cond_false] at hx
      obtain ⟨h1, hst, rfl⟩ := opt_map_some hx
      cases hD with
      | slend _ _ =>
        have : k ≤ 0 := by rw [← hk]; exact Nat.min_le_right _ _
        omega
      | @sl b c d o _ _ cap' hl hc hs =>
        obtain ⟨arr, tt, fz, hh, hfit, hth, hpl, hB, _, H'⟩ := H.store hl hst hcr
        have hrun := run_storeCells P c (d + o) tt fz cs' w arr 0 hh hpl (by omega) hth
        rw [Nat.add_zero] at hrun
        exact Out.value (hrunS _ _ _ hrun) (Env.le_refl e) (.int _ _) H' (below_putRow hB _ _ _)

theorem sim_clear (H : HRel e B0 h w) {t ty : TypeId} {more : List TypeId} {base : Option Addr} {k cap : Nat} {x' : Value} {n : ANext} (hV : VRel e (.slice base k cap) x') (hux : (P.underlying t).isSome = true)
    (hx : (match (generalizing := false) base with
    | none => some (ANext.value (.tuple #[]) h)
    | some a => cond (Nat.beq k 0) (some (.value (.tuple #[]) h))
      (match P.underlying t with
       | some (.slice el) => (zeroCells P el).bind fun z => (h.storeAt a.block a.off (List.replicate k z).flatten).map fun h => .value (.tuple #[]) h
       | _ => none)) = some n) : Out e B0 w n ((do pure (Next.value (← Builtin.clear_ ⟨t :: more⟩ ty ⟨[x']⟩)) : Sem Next).run P w) := by
  obtain ⟨du, hdu⟩ := Option.isSome_iff_exists.1 hux
  have hv : VRel e (.tuple #[]) (.tuple #[]) := .tuple' VsRel.nil
  have h00 : ∀ (a : Addr) (cap' : Nat), (Builtin.clear_ ⟨t :: more⟩ ty ⟨[.slice (some a) 0 cap']⟩).run P w = .ok (.tuple #[]) w := by
    intro a cap'
    cases du <;> simp [Builtin.clear_, run_underlying hdu]
  cases base with
  | none =>
    cases hx
    cases hV
    exact Out.value0 H (by cases du <;> simp [Builtin.clear_, run_underlying hdu]) hv
  | some a =>
    simp only [] at hx
    by_cases h0 : k = 0
    · subst h0
      simp only [nbeq, decide_true, cond_true, Option.some.injEq] at hx
      subst hx
      cases hV <;> exact Out.value0 H (h00 _ _) hv
    · simp only [nbeq, h0, decide_false, cond_false] at hx
      split at hx
      case h_2 => cases hx
      rename_i el hu
      obtain ⟨z, hz, hx⟩ := opt_bind_some hx
      obtain ⟨h1, hst, rfl⟩ := opt_map_some hx
      obtain ⟨zv, hzv, rfl⟩ := opt_map_some hz
      obtain ⟨hzr, hzf⟩ := zeroVal_run (w := w) hzv
      have hrel : VsRel e (List.replicate k zv.cells.toList).flatten (Builtin.zeroCells zv.cells k).toList := zeros_rel hzf rfl
      cases hV with
      | slend _ _ => omega
      | @sl b c d o _ _ cap' hl hc hs =>
        obtain ⟨arr, tt, fz, hh, hfit, hth, hpl, hB, _, H'⟩ := H.store hl hst hrel
        have hrun := run_storeCells P c (d + o) tt fz _ w arr 0 hh hpl (by simpa using hfit) hth
        rw [Nat.add_zero] at hrun
        refine Out.value ?_ (Env.le_refl e) hv H' (below_putRow hB _ _ _)
        obtain ⟨k, rfl⟩ : ∃ j, k = j + 1 := ⟨k - 1, by omega⟩
        simp [Builtin.clear_, run_underlying hu, hzr, hrun]

theorem args1 {a : Value} {args' : Array Value} (hV : VsRel e [a] args'.toList) : ∃ a', args' = ⟨[a']⟩ ∧ VRel e a a' := by
  obtain ⟨args'⟩ := args'
  obtain ⟨a', l1, h1, hm, hl1⟩ := hV.cons_left
  have := hl1.nil_left
  subst this
  exact ⟨a', by simp only at h1; rw [h1], hm⟩
theorem args2 {a b : Value} {args' : Array Value} (hV : VsRel e [a, b] args'.toList) : ∃ a' b', args' = ⟨[a', b']⟩ ∧ VRel e a a' ∧ VRel e b b' := by
  obtain ⟨args'⟩ := args'
  obtain ⟨a', l1, h1, hm, hl1⟩ := hV.cons_left
  obtain ⟨b', l2, rfl, hk, hl2⟩ := hl1.cons_left
  have := hl2.nil_left
  subst this
  exact ⟨a', b', by simp only at h1; rw [h1], hm, hk⟩

theorem sim_builtin (H : HRel e B0 h w) {b : Builtin} {ats : Array TypeId} {ty : TypeId} {cs : Array Bool} {args : List Value} {args' : Array Value} {n : ANext} (hV : VsRel e args args'.toList) (hx : builtinA P h b ats args = some n) :
    Out e B0 w n ((builtin b ats ty cs args').run P w) := by
  obtain ⟨ats⟩ := ats
  unfold builtinA at hx
  split at hx
  · rename_i t u more s x hat
    obtain ⟨s', x', rfl, hs, hxx⟩ := args2 hV
    simp only at hat
    subst hat
    split at hx
    · cases hx
    · cases hx
    · rename_i du hne hu
      obtain ⟨⟨v, h1⟩, ha, rfl⟩ := opt_map_some hx
      exact sim_append H hu (fun k hk => hne k hk) hs hxx ha
  · rename_i t more x hat
    obtain ⟨x', rfl, hxx⟩ := args1 hV
    simp only at hat
    subst hat
    obtain ⟨k, hk, rfl⟩ := opt_map_some hx
    exact sim_len H hxx hk
  · rename_i t more d s hat
    obtain ⟨d', s', rfl, hd, hs⟩ := args2 hV
    simp only at hat
    subst hat
    exact sim_copy H hd hs hx
  · rename_i kx x ky y
    obtain ⟨x', y', rfl, hxx, hy⟩ := args2 hV
    cases hxx; cases hy; cases hx
    exact Out.value0 H (by simp [Builtin.max_, Builtin.max2]) (.int _ _)
  · rename_i kx x ky y
    obtain ⟨x', y', rfl, hxx, hy⟩ := args2 hV
    cases hxx; cases hy; cases hx
    exact Out.value0 H (by simp [Builtin.min_, Builtin.min2]) (.int _ _)
  · cases hx
    exact ⟨e, Env.le_refl e, w, by simp [builtin], H, Below.refl _ _⟩
  · rename_i t more base k cap hat
    obtain ⟨x', rfl, hxx⟩ := args1 hV
    simp only at hat
    subst hat
    obtain ⟨hu, hx⟩ := cond_some hx
    exact sim_clear H hxx hu hx
  · rename_i t more r k hat
    simp only at hat
    subst hat
    exact sim_delete H rfl hV hx
  · cases hx
end
end Go.AM

namespace Go.AM
open Go Go.RowKit

/-- what is asked of a program, and of what is said of its pure externs. -/
structure Good (P : Program) (X : FuncId → List Value → Option Value) : Prop where
  noG : ∀ (f : FuncId) (fn : Func), P.funcs[f]? = some fn → fn.body.isSome = true → (fn.name == "runtime.NumGoroutine") = false
  ext : ∀ (f : FuncId) (fn : Func) (args : List Value) (v : Value), P.funcs[f]? = some fn → fn.body.isSome = false → X f args = some v →
    ∀ (e : Env) (args' : Array Value) (w : World), VsRel e args args'.toList → ∃ v', (callFunc f args').run P w = .ok (.value v') w ∧ VRel e v v'

section
variable {P : Program} {X : FuncId → List Value → Option Value} {e : Env} {B0 : Nat} {h : AH} {w : World} {ρ ρ' : Operand → Value}

theorem sim_callFunc (G : Good P X) (H : HRel e B0 h w) {f : FuncId} {args : List Value} {args' : Array Value} {n : ANext} (hV : VsRel e args args'.toList) (hx : callA P X h f args = some n) :
    Out e B0 w n ((callFunc f args').run P w) := by
  unfold callA at hx
  split at hx
  case h_2 => cases hx
  rename_i fn hf
  cases hb : fn.body.isSome with
  | true =>
    rw [hb, cond_true] at hx
    cases hx
    have hn := G.noG f fn hf hb
    have hbn : fn.body.isNone = false := by cases hbb : fn.body <;> simp [hbb] at hb ⊢
    refine ⟨e, Env.le_refl e, args', w, ?_, hV, H, Below.refl _ _⟩
    have hn' : fn.name ≠ "runtime.NumGoroutine" := by simpa using hn
    have hbn' : fn.body ≠ none := by intro hx; rw [hx] at hb; cases hb
    simp [callFunc, hf, hn', hbn']
  | false =>
    rw [hb, cond_false] at hx
    obtain ⟨v, hv, rfl⟩ := opt_map_some hx
    obtain ⟨v', hr, hV'⟩ := G.ext f fn args v hf hb hv e args' w hV
    exact ⟨e, Env.le_refl e, v', w, hr, hV', H, Below.refl _ _⟩

theorem TmpsRel.set {t : PT Value} {n : Nat} {a : Array Value} (hT : TmpsRel e t n a) {p : Nat} (hp : p < n) (hn : n < 1000000) {v v' : Value} (hv : VRel e v v') : TmpsRel e (PT.set 64 t p v) n (a.setIfInBounds p v') := by
  refine ⟨by simp [hT.1], fun i => ?_⟩
  rw [PT.get_set _ _ _ _ (by unfold far; omega)]
  by_cases hi : i = p
  · subst hi
    rw [if_pos rfl]
    have hlt : i < a.size := by rw [hT.1]; exact hp
    simpa [Array.getD_eq_getD_getElem?, Array.getElem?_setIfInBounds, hlt] using hv
  · rw [if_neg hi]
    have := hT.2 i
    rw [Array.getD_eq_getD_getElem?] at this ⊢
    rw [Array.getElem?_setIfInBounds_ne (fun hx => hi hx.symm)]
    exact this

theorem TmpsRel.setMany {n : Nat} (hn : n < 1000000) : ∀ (ps : List Tmp) (vs vs' : List Value) (t : PT Value) (a : Array Value), TmpsRel e t n a → VsRel e vs vs' → ps.all (Nat.blt · n) = true →
    TmpsRel e (Go.AM.setMany t ps vs) n ((ps.zip vs').foldl (fun tmps (t, a) => tmps.setIfInBounds t a) a)
  | [], vs, vs', t, a, hT, _, _ => by simpa [Go.AM.setMany] using hT
  | p :: ps, [], vs', t, a, hT, hV, _ => by rw [hV.nil_left]; simpa [Go.AM.setMany] using hT
  | p :: ps, v :: vs, vs', t, a, hT, hV, hp => by
    obtain ⟨v', l, rfl, hv, hl⟩ := hV.cons_left
    simp only [List.all_cons, Bool.and_eq_true, nblt, decide_eq_true_eq] at hp
    simp only [Go.AM.setMany, List.zip_cons_cons, List.foldl_cons]
    exact TmpsRel.setMany hn ps vs l _ _ (hT.set hp.1 hn hv) hl (by simpa [nblt] using hp.2)

theorem sim_invoke (G : Good P X) (H : HRel e B0 h w) {fn fn' : Fn} {cap cap' : Array Value} {args : List Value} {args' : Array Value} {n : ANext} (hF : FnRel e fn fn') (hC : VsRel e cap.toList cap'.toList) (hV : VsRel e args args'.toList)
    (hx : invokeA P X h fn cap args = some n) : Out e B0 w n ((invoke (.fn fn' cap') args').run P w) := by
  unfold invokeA at hx
  split at hx
  · rename_i f
    cases hF
    have := sim_callFunc (args' := args' ++ cap') G H (by rw [Array.toList_append]; exact hV.append hC) hx
    simpa [invoke] using this
  · rename_i t path f ptr
    cases hF
    have hgo : ∀ (x : Value) (rest : List Value), args = x :: rest → path.toList = [] → (∀ x', (receiverAt t (.val x') ptr none).run P w = .ok x' w) → callA P X h f (x :: rest) = some n →
        Out e B0 w n ((invoke (.fn (.via t path f ptr) cap') args').run P w) := by
      intro x rest ha hp hr hc
      subst ha
      obtain ⟨args'⟩ := args'
      obtain ⟨x', l1, h1, hxx, hl1⟩ := hV.cons_left
      simp only at h1
      subst h1
      have := sim_callFunc (args' := ⟨x' :: l1⟩) G H (VsRel.cons hxx hl1) hc
      have harr : (#[x'] ++ (⟨x' :: l1⟩ : Array Value).extract 1 (⟨x' :: l1⟩ : Array Value).size) = ⟨x' :: l1⟩ := by
        apply Array.ext'
        simp
      have hrun : (invoke (.fn (.via t path f ptr) cap') ⟨x' :: l1⟩).run P w = (callFunc f ⟨x' :: l1⟩).run P w := by
        have hg : (⟨x' :: l1⟩ : Array Value)[0]? = some x' := rfl
        simp only [invoke, hg, receiverVia, hp, follow, Sem.run_bind, Sem.run_pure, Result.andThen_ok, hr, harr]
      rw [hrun]; exact this
    split at hx
    · rename_i _ x rest el hp hu
      exact hgo x rest rfl hp (fun x' => by simp [receiverAt, run_underlying hu, Place.get]) hx
    · rename_i _ x rest fs hp hu
      exact hgo x rest rfl hp (fun x' => by simp [receiverAt, run_underlying hu, Place.get]) hx
    · rename_i _ x rest k hp hu
      exact hgo x rest rfl hp (fun x' => by simp [receiverAt, run_underlying hu, Place.get]) hx
    · cases hx
  · rename_i l
    cases hF with
    | @yield _ l' hl =>
      split at hx
      case h_2 => cases hx
      rename_i st pend fn tmps k params assign body dfs hg
      obtain ⟨hc, hx⟩ := cond_some hx
      cases hx
      simp only [Bool.and_eq_true, nbeq, decide_eq_true_eq] at hc
      obtain ⟨_, ⟨o', hh, hO⟩, _⟩ := H.obj hl hg rfl
      cases o' <;> simp only [ObjRel] at hO
      rename_i r
      obtain ⟨h1, h2, rfl, hn, hT, rfl, rfl, rfl, h8⟩ := hO
      have hargs : args'.size = r.params.size := by have := hV.1; simp at this hc; omega
      have hT2 := TmpsRel.setMany hn r.params.toList args args'.toList _ _ hT hV hc.2
      refine ⟨e, Env.le_refl e, l', _, w, ?_, hl, hn, hT2, H, Below.refl _ _⟩
      have hgl : (Instr.getLoop l').run P w = .ok r w := by simp [Instr.getLoop, run_getObj_any hh (fun _ _ _ h => by cases h)]
      simp only [invoke, Instr.yield, Sem.run_bind, hgl, Result.andThen_ok]
      rw [if_neg (by simp [hargs])]
      simp only [Sem.run_pure]
      rw [← Array.foldl_toList, Array.toList_zip]
  · cases hx

theorem list_map_arr (f : Operand → Value) (a : Array Operand) : (a.toList.map f).toArray = a.map f := by
  apply Array.ext'; simp

theorem sim_deferOf {f f' : Value} {args : List Value} {args' : Array Value} {d : Deferred} (hF : VRel e f f') (hV : VsRel e args args'.toList) (hx : deferOf f args = some d) : ∃ d', (Deferred.ofValue f' args').run P w = .ok d' w ∧ DRel e d d' := by
  unfold deferOf at hx
  split at hx
  case h_2 => cases hx
  rename_i fn first captured
  cases hx
  cases hF with
  | @func _ fn' _ first' _ cap' hf ha hA hb hB =>
    refine ⟨_, rfl, .fn hf (vsRel_arr.2 ⟨hb, hB⟩), ?_⟩
    simp only [Array.toList_append]
    exact (vsRel_arr.2 ⟨ha, hA⟩ : VsRel e first.toList first'.toList).append hV
end
end Go.AM

namespace Go.AM
open Go Go.RowKit

section
variable {P : Program} {X : FuncId → List Value → Option Value} {e : Env} {B0 : Nat} {h : AH} {w : World} {ρ ρ' : Operand → Value}

theorem exec_sim (G : Good P X) (H : HRel e B0 h w) {o : Oper} {n : ANext} (hρ : ∀ x, x ∈ o.op.operands.toList → okOpd x = true → VRel e (ρ x) (ρ' x)) (hx : execA P X h ρ o = some n) :
    Out e B0 w n ((execOp ρ' o).run P w) := by
  unfold execA at hx
  obtain ⟨hok, hx⟩ := cond_some hx
  have hr : ∀ x ∈ o.op.operands.toList, VRel e (ρ x) (ρ' x) := fun x hm => hρ x hm (List.all_eq_true.1 hok x hm)
  clear hok
  unfold opA at hx
  cases ho : o.op with
  | move x =>
    rw [ho] at hx hr
    cases hx
    refine ⟨e, Env.le_refl e, _, w, ?_, hr x (by simp [Op.operands]), H, Below.refl _ _⟩
    simp [execOp, ho]
  | assign x =>
    rw [ho] at hx hr
    cases hx
    refine ⟨e, Env.le_refl e, _, w, ?_, hr x (by simp [Op.operands]), H, Below.refl _ _⟩
    simp [execOp, ho]
  | pick c a b =>
    rw [ho] at hx hr
    simp only [] at hx
    have h1 := hr c (by simp [Op.operands])
    have h2 := hr a (by simp [Op.operands])
    have h3 := hr b (by simp [Op.operands])
    split at hx
    case h_2 => cases hx
    rename_i b' hb
    rw [hb] at h1
    cases hx
    generalize hz : ρ' c = z at h1
    cases h1
    refine ⟨e, Env.le_refl e, (if b' then ρ' a else ρ' b), w, ?_, ?_, H, Below.refl _ _⟩
    · simp [execOp, ho, hz, asBool]
    · cases b' with
      | true => exact h2
      | false => exact h3
  | alloc t =>
    rw [ho] at hx
    simp only [execOp, ho]
    exact sim_alloc H hx
  | box t x =>
    rw [ho] at hx hr
    simp only [execOp, ho]
    exact sim_box H (hr x (by simp [Op.operands])) hx
  | build t parts =>
    rw [ho] at hx hr
    simp only [execOp, ho]
    have hp : ∀ x ∈ parts.toList.map (·.2), VRel e (ρ x) (ρ' x) := fun x hm => hr x (by simpa [Op.operands] using hm)
    simp only [] at hx
    split at hx
    · rename_i fields z hu hz
      obtain ⟨hf, hx⟩ := cond_some hx
      obtain ⟨cs, hcs, rfl⟩ := opt_map_some hx
      exact sim_build_struct H hu hz hf hp hcs
    · rename_i k el z hu hz
      obtain ⟨size, hs, hx⟩ := opt_bind_some hx
      obtain ⟨cs, hcs, rfl⟩ := opt_map_some hx
      exact sim_build_array H hu hz hs hp hcs
    · cases hx
  | buildSlice t len parts =>
    rw [ho] at hx hr
    simp only [execOp, ho]
    have hp : ∀ x ∈ parts.toList.map (·.2), VRel e (ρ x) (ρ' x) := fun x hm => hr x (by simpa [Op.operands] using hm)
    simp only [] at hx
    split at hx
    case h_2 => cases hx
    rename_i el hu
    split at hx
    case h_2 => cases hx
    rename_i size z hs hz
    obtain ⟨hc, hx⟩ := cond_some hx
    simp only [Bool.and_eq_true, nble, nbeq, decide_eq_true_eq] at hc
    exact sim_buildSlice H hu hs hz hc.2 hc.1 hp hx
  | load t a =>
    rw [ho] at hx hr
    simp only [execOp, ho]
    simp only [] at hx
    have h1 := hr a (by simp [Op.operands])
    generalize ρ a = va at hx h1
    generalize ρ' a = va' at h1
    split at hx
    case h_2 => cases hx
    rename_i a
    obtain ⟨hu, hx⟩ := cond_some hx
    exact sim_load H hu h1 hx
  | store t a x =>
    rw [ho] at hx hr
    simp only [execOp, ho]
    exact sim_store H (hr a (by simp [Op.operands])) (hr x (by simp [Op.operands])) hx
  | nilCheck x =>
    rw [ho] at hx hr
    exact sim_nilCheck H (hr x (by simp [Op.operands])) ho hx
  | binOp op t x y ty =>
    rw [ho] at hx hr
    simp only [execOp, ho]
    obtain ⟨v, hv, rfl⟩ := opt_map_some hx
    exact sim_binOp H (hr x (by simp [Op.operands])) (hr y (by simp [Op.operands])) hv
  | unOp op t x =>
    rw [ho] at hx hr
    simp only [execOp, ho]
    obtain ⟨v, hv, rfl⟩ := opt_map_some hx
    exact sim_unOp H (hr x (by simp [Op.operands])) hv
  | convert s d x =>
    rw [ho] at hx hr
    simp only [execOp, ho]
    simp only [] at hx
    have h1 := hr x (by simp [Op.operands])
    generalize ρ x = v at hx h1
    generalize ρ' x = v' at h1
    split at hx
    · rename_i el b hud
      cases h1
      split at hx
      · rename_i i hus hue hi
        exact sim_stringBytes H hus hud hue hi hx
      · cases hx
    · rename_i el a len cap hud
      split at hx
      · rename_i el' hus hue
        obtain ⟨hc, hx⟩ := cond_some hx
        cases hx
        simp only [Bool.and_eq_true, nbeq, nblt, nble, decide_eq_true_eq] at hc
        exact sim_sameBytes H hus hud hue hc.1.1 hc.1.2 hc.2 h1
      · cases hx
    · obtain ⟨v, hv, rfl⟩ := opt_map_some hx
      exact sim_conv H h1 hv
  | makeInterface t x =>
    rw [ho] at hx hr
    simp only [execOp, ho]
    exact sim_makeInterface H (hr x (by simp [Op.operands])) hx
  | makeFunc fn first captured =>
    rw [ho] at hx hr
    simp only [execOp, ho]
    have h1 : VsRel e (first.toList.map ρ) (first.toList.map ρ') := VsRel.map_ ρ ρ' _ fun x hm => hr x (by simp only [Op.operands, Array.toList_append, List.mem_append]; exact .inl hm)
    have h2 : VsRel e (captured.toList.map ρ) (captured.toList.map ρ') := VsRel.map_ ρ ρ' _ fun x hm => hr x (by simp only [Op.operands, Array.toList_append, List.mem_append]; exact .inr hm)
    simp only [] at hx
    have h1' : VsRel e (first.toList.map ρ).toArray.toList (first.map ρ').toList := by simpa using h1
    have h2' : VsRel e (captured.toList.map ρ).toArray.toList (captured.map ρ').toList := by simpa using h2
    split at hx
    · rename_i f
      cases hx
      exact Out.value0 H (by simp only [Instr.makeFunc, Sem.run_pure]) (.func' (.func f) h1' h2')
    · rename_i t p f q
      cases hx
      exact Out.value0 H (by simp only [Instr.makeFunc, Sem.run_pure]) (.func' (.via t p f q) h1' h2')
    · cases hx
  | makeMap t r =>
    rw [ho] at hx hr
    simp only [execOp, ho]
    cases r with
    | none => exact sim_makeMap H hx
    | some x => cases hx
  | makeSlice t l c =>
    rw [ho] at hx hr
    simp only [execOp, ho]
    exact sim_makeSlice H (hr l (by simp [Op.operands])) (hr c (by simp [Op.operands])) hx
  | slice t x lo hi mx =>
    rw [ho] at hx hr
    simp only [execOp, ho]
    obtain ⟨v, hv, rfl⟩ := opt_map_some hx
    exact sim_slice H (hr x (by simp [Op.operands])) (OV.map fun y hy => hr y (by subst hy; simp [Op.operands])) (OV.map fun y hy => hr y (by subst hy; simp [Op.operands])) (OV.map fun y hy => hr y (by subst hy; simp [Op.operands])) hv
  | fieldAddr s x f =>
    rw [ho] at hx hr
    simp only [execOp, ho]
    exact sim_fieldAddr H (hr x (by simp [Op.operands])) hx
  | field t x f =>
    rw [ho] at hx hr
    simp only [execOp, ho]
    exact sim_field H (hr x (by simp [Op.operands])) hx
  | indexAddr t x i =>
    rw [ho] at hx hr
    simp only [execOp, ho]
    exact sim_indexAddr H (hr x (by simp [Op.operands])) (hr i (by simp [Op.operands])) hx
  | index t x i =>
    rw [ho] at hx hr
    simp only [execOp, ho]
    exact sim_index H (hr x (by simp [Op.operands])) (hr i (by simp [Op.operands])) hx
  | lookup t x i ok =>
    rw [ho] at hx hr
    simp only [execOp, ho]
    exact sim_lookup H (hr x (by simp [Op.operands])) (hr i (by simp [Op.operands])) hx
  | mapUpdate t m k x =>
    rw [ho] at hx hr
    simp only [execOp, ho]
    exact sim_mapUpdate H (hr m (by simp [Op.operands])) (hr k (by simp [Op.operands])) (hr x (by simp [Op.operands])) hx
  | insert t m k x =>
    rw [ho] at hx hr
    simp only [execOp, ho]
    exact sim_mapUpdate H (hr m (by simp [Op.operands])) (hr k (by simp [Op.operands])) (hr x (by simp [Op.operands])) hx
  | range t x =>
    rw [ho] at hx hr
    simp only [execOp, ho]
    exact sim_range H (hr x (by simp [Op.operands])) hx
  | next it s =>
    rw [ho] at hx hr
    simp only [execOp, ho]
    exact sim_next H (hr it (by simp [Op.operands])) hx
  | entry it =>
    rw [ho] at hx hr
    simp only [execOp, ho]
    exact sim_entry H (hr it (by simp [Op.operands])) hx
  | typeAssert x s t ok =>
    rw [ho] at hx hr
    simp only [execOp, ho]
    exact sim_typeAssert H (hr x (by simp [Op.operands])) hx
  | extract t i =>
    rw [ho] at hx hr
    simp only [execOp, ho]
    exact sim_extract H (hr t (by simp [Op.operands])) hx
  | call c =>
    rw [ho] at hx hr
    simp only [execOp, ho]
    simp only [] at hx
    have hargs : VsRel e (c.args.toList.map ρ) (c.args.map ρ').toList := by
      rw [Array.toList_map]
      exact VsRel.map_ ρ ρ' _ fun x hm => hr x (by simp only [Op.operands, Call.operands, Array.toList_append, List.mem_append]; exact .inr hm)
    split at hx
    · rename_i b hc
      have := fun cs => sim_builtin (ty := o.type) (cs := cs) H hargs hx
      simp only [resolve, hc, Sem.run_bind, Sem.run_pure, Result.andThen_ok, invoke]
      exact this _
    · rename_i f hc
      have hf := hr f (by simp [Op.operands, Call.operands, hc])
      split at hx
      case h_2 => cases hx
      rename_i fn first captured hfv
      rw [hfv] at hf
      generalize hz : ρ' f = z at hf
      cases hf with
      | @func _ fn' _ first' _ cap' hfn ha hA hb hB =>
        have hV : VsRel e (first.toList ++ c.args.toList.map ρ) (first' ++ c.args.map ρ').toList := by
          rw [Array.toList_append]
          exact (vsRel_arr.2 ⟨ha, hA⟩ : VsRel e first.toList first'.toList).append hargs
        have := sim_invoke G H hfn (vsRel_arr.2 ⟨hb, hB⟩) hV hx
        simpa [resolve, hc, hz, Deferred.ofValue] using this
    · cases hx
  | defer c =>
    rw [ho] at hx hr
    simp only [execOp, ho]
    simp only [] at hx
    have hargs : VsRel e (c.args.toList.map ρ) (c.args.map ρ').toList := by
      rw [Array.toList_map]
      exact VsRel.map_ ρ ρ' _ fun x hm => hr x (by simp only [Op.operands, Call.operands, Array.toList_append, List.mem_append]; exact .inr hm)
    split at hx
    case h_2 => cases hx
    rename_i f hc
    obtain ⟨d, hd, rfl⟩ := opt_map_some hx
    obtain ⟨d', hr', hD⟩ := sim_deferOf (P := P) (w := w) (hr f (by simp [Op.operands, Call.operands, hc])) hargs hd
    refine ⟨e, Env.le_refl e, d', w, ?_, hD, H, Below.refl _ _⟩
    simp [resolve, hc, hr']
  | panic x =>
    rw [ho] at hx hr
    simp only [execOp, ho]
    simp only [] at hx
    have h1 := hr x (by simp [Op.operands])
    split at hx
    case h_2 => cases hx
    rename_i t v hv
    cases hx
    rw [hv] at h1
    generalize hz : ρ' x = z at h1
    cases h1 with
    | @iface _ _ v' hvv =>
      refine ⟨e, Env.le_refl e, .iface t v', w, ?_, .iface t hvv, H, Below.refl _ _⟩
      simp [Instr.panic, goPanic, Result.andThen, Sem.run]
  | ready g => rw [ho] at hx; cases hx
  | waits g => rw [ho] at hx; cases hx
  | sliceToArrayPointer a x => rw [ho] at hx; cases hx
  | makeChan t x => rw [ho] at hx; cases hx
  | mapEntry t m k => rw [ho] at hx; cases hx
  | entryStore t m s x => rw [ho] at hx; cases hx
  | go c => rw [ho] at hx; cases hx
  | send c x => rw [ho] at hx; cases hx
  | recv t c ok => rw [ho] at hx; cases hx
  | select cs b => rw [ho] at hx; cases hx
end
end Go.AM

namespace Go.AM
open Go Go.RowKit

/-! ## frames -/
def IdxRel (ops : Array Oper) (rest : List Oper) (idx : List Nat) : Prop := idx.map (fun (i : Nat) => ops[i]?) = rest.map some

inductive IRel (e : Env) : AItem → Item → Prop where
  | code (c : Code) : IRel e (.code c) (.code c)
  | inBlock (i : Nat) : IRel e (.inBlock i) (.inBlock i)
  | inLoop (c : Code) : IRel e (.inLoop c) (.inLoop c)
  | inRegion {ops : Array Oper} {rest : List Oper} {idx : List Nat} : IdxRel ops rest idx → IRel e (.inRegion ops rest) (.inRegion ops idx)
  | inRangeFunc {l l' : Nat} : e.loc l = some (l', 0) → IRel e (.inRangeFunc l) (.inRangeFunc l')
  | endRangeFunc {l l' : Nat} : e.loc l = some (l', 0) → IRel e (.endRangeFunc l) (.endRangeFunc l')
  | beginRound : IRel e .beginRound .beginRound

inductive IsRel (e : Env) : List AItem → List Item → Prop where
  | nil : IsRel e [] []
  | cons {a : AItem} {b : Item} {l : List AItem} {m : List Item} : IRel e a b → IsRel e l m → IsRel e (a :: l) (b :: m)

inductive PsRel (e : Env) : List PanicEntry → List PanicEntry → Prop where
  | nil : PsRel e [] []
  | cons {v v' : Value} {r g : Bool} {l m : List PanicEntry} : VRel e v v' → PsRel e l m → PsRel e (⟨v, r, g⟩ :: l) (⟨v', r, g⟩ :: m)

inductive ModeRel (e : Env) : FrameMode → FrameMode → Prop where
  | run : ModeRel e .run .run
  | returning : ModeRel e .returning .returning
  | panicking {l m : List PanicEntry} : PsRel e l m → ModeRel e (.panicking l) (.panicking m)

structure FRel (e : Env) (fr : AFrame) (fr' : Frame) : Prop where
  fn : fr'.fn = fr.fn
  small : fr.n < 1000000
  tmps : TmpsRel e fr.tmps fr.n fr'.tmps
  todo : IsRel e fr.todo fr'.todo
  defers : DsRel e fr.defers fr'.defers
  mode : ModeRel e fr.mode fr'.mode
  kind : fr'.kind = fr.kind
  round : MRel e fr.roundOf fr'.roundOf

inductive FsRel (e : Env) : List AFrame → List Frame → Prop where
  | nil : FsRel e [] []
  | cons {a : AFrame} {b : Frame} {l : List AFrame} {m : List Frame} : FRel e a b → FsRel e l m → FsRel e (a :: l) (b :: m)

section
variable {e e' : Env}
theorem IRel.mono (h : e.le e') {a : AItem} {b : Item} (r : IRel e a b) : IRel e' a b := by
  cases r with
  | code c => exact .code c
  | inBlock i => exact .inBlock i
  | inLoop c => exact .inLoop c
  | inRegion hi => exact .inRegion hi
  | inRangeFunc hl => exact .inRangeFunc (h.loc _ _ _ hl)
  | endRangeFunc hl => exact .endRangeFunc (h.loc _ _ _ hl)
  | beginRound => exact .beginRound
theorem IsRel.mono (h : e.le e') {a : List AItem} {b : List Item} (r : IsRel e a b) : IsRel e' a b := by
  induction r with
  | nil => exact .nil
  | cons h1 _ ih => exact .cons (h1.mono h) ih
theorem PsRel.mono (h : e.le e') {a b : List PanicEntry} (r : PsRel e a b) : PsRel e' a b := by
  induction r with
  | nil => exact .nil
  | cons h1 _ ih => exact .cons (h1.mono h) ih
theorem ModeRel.mono (h : e.le e') {a b : FrameMode} (r : ModeRel e a b) : ModeRel e' a b := by
  cases r with
  | run => exact .run
  | returning => exact .returning
  | panicking h1 => exact .panicking (h1.mono h)
theorem FRel.mono (h : e.le e') {a : AFrame} {b : Frame} (r : FRel e a b) : FRel e' a b :=
  ⟨r.fn, r.small, r.tmps.mono h, r.todo.mono h, r.defers.mono h, r.mode.mono h, r.kind, r.round.mono h⟩
theorem FsRel.mono (h : e.le e') {a : List AFrame} {b : List Frame} (r : FsRel e a b) : FsRel e' a b := by
  induction r with
  | nil => exact .nil
  | cons h1 _ ih => exact .cons (h1.mono h) ih
theorem PsRel.append {a b c d : List PanicEntry} (r : PsRel e a b) (s : PsRel e c d) : PsRel e (a ++ c) (b ++ d) := by
  induction r with
  | nil => exact s
  | cons h1 _ ih => exact .cons h1 ih
theorem DsRel.nil : DsRel e [] [] := ⟨rfl, fun i x y h => by simp at h⟩
theorem DsRel.cons {d d' : Deferred} {ds ds' : List Deferred} (h : DRel e d d') (r : DsRel e ds ds') : DsRel e (d :: ds) (d' :: ds') :=
  ⟨by simp [r.1], fun i x y hx hy => by
    cases i with
    | zero => cases hx; cases hy; exact h
    | succ i => exact r.2 i x y hx hy⟩
theorem DsRel.cons_left {d : Deferred} {ds ds' : List Deferred} (r : DsRel e (d :: ds) ds') : ∃ d' l, ds' = d' :: l ∧ DRel e d d' ∧ DsRel e ds l := by
  cases ds' with
  | nil => have := r.1; simp at this
  | cons d' l => exact ⟨d', l, rfl, r.2 0 _ _ rfl rfl, by simpa using r.1, fun i x y hx hy => r.2 (i + 1) x y hx hy⟩
theorem DsRel.nil_left {ds' : List Deferred} (r : DsRel e [] ds') : ds' = [] := List.eq_nil_of_length_eq_zero r.1.symm
theorem DsRel.append {a b c d : List Deferred} (r : DsRel e a b) (s : DsRel e c d) : DsRel e (a ++ c) (b ++ d) := by
  induction a generalizing b with
  | nil => rw [r.nil_left]; exact s
  | cons x a ih =>
    obtain ⟨y, l, rfl, h1, h2⟩ := r.cons_left
    exact .cons h1 (ih h2)
end

section
variable {P : Program} {X : FuncId → List Value → Option Value} {e : Env} {B0 : Nat} {h : AH} {w : World}

theorem FRel.eval {fr : AFrame} {fr' : Frame} (F : FRel e fr fr') {x : Operand} (hx : okOpd x = true) : VRel e (fr.eval x) (fr'.eval x) := by
  cases x with
  | tmp t => exact F.tmps.2 t
  | const v => exact flat_rel e v hx
  | global g => cases hx
  | func f => exact .func' (.func f) VsRel.nil VsRel.nil

def putArr (a : Array Value) : Option Tmp → Value → Array Value
  | some d, v => a.setIfInBounds d v
  | none, _ => a

theorem putT_sim {t t2 : PT Value} {n : Nat} {a : Array Value} {d : Option Tmp} {v v' : Value} (hT : TmpsRel e t n a) (hn : n < 1000000) (hv : VRel e v v') (hp : putT t n d v = some t2) :
    TmpsRel e t2 n (putArr a d v') := by
  cases d with
  | none => cases hp; exact hT
  | some d =>
    simp only [putT] at hp
    obtain ⟨hc, hp⟩ := cond_some hp
    cases hp
    simp only [nblt, decide_eq_true_eq] at hc
    exact hT.set hc hn hv

theorem IdxRel.cons_inv {ops : Array Oper} {o : Oper} {rest : List Oper} {idx : List Nat} (h : IdxRel ops (o :: rest) idx) : ∃ i l, idx = i :: l ∧ ops[i]? = some o ∧ IdxRel ops rest l := by
  cases idx with
  | nil => simp [IdxRel] at h
  | cons i l =>
    simp only [IdxRel, List.map_cons, List.cons.injEq] at h
    exact ⟨i, l, rfl, h.1, h.2⟩
theorem IdxRel.nil_inv {ops : Array Oper} {idx : List Nat} (h : IdxRel ops [] idx) : idx = [] := by
  cases idx with
  | nil => rfl
  | cons i l => simp [IdxRel] at h

theorem finish_sim {fr fr1 : AFrame} {fr' : Frame} (F : FRel e fr fr') {v v' : Value} (hv : VRel e v v') (hf : finishA fr v = some fr1) : FRel e fr1 (fr'.finish v') ∧ fr1.fn = fr.fn := by
  unfold finishA at hf
  obtain ⟨f1, f2, f3, f4, f5, f6, f7, f8⟩ := F
  split at hf
  · rename_i ops o rest k htodo
    rw [htodo] at f4
    obtain ⟨t, ht, rfl⟩ := opt_map_some hf
    generalize htd : fr'.todo = td at f4
    cases f4 with
    | cons h1 h2 =>
      cases h1 with
      | inRegion hi =>
        obtain ⟨i, l, rfl, ho, hl⟩ := hi.cons_inv
        have hT := putT_sim f3 f2 hv ht
        refine ⟨⟨?_, f2, ?_, ?_, ?_, ?_, ?_, ?_⟩, rfl⟩ <;> simp only [Frame.finish, htd]
        · exact f1
        · rw [ho]
          cases hd : o.dst with
          | none => rw [hd] at hT; simpa [hd, putArr] using hT
          | some d => rw [hd] at hT; simpa [hd, putArr] using hT
        · exact .cons (.inRegion hl) h2
        · exact f5
        · exact f6
        · exact f7
        · exact f8
  · rename_i l k htodo
    rw [htodo] at f4
    cases hf
    generalize htd : fr'.todo = td at f4
    cases f4 with
    | cons h1 h2 =>
      cases h1 with
      | inRangeFunc hl =>
        refine ⟨⟨?_, f2, ?_, ?_, ?_, ?_, ?_, ?_⟩, rfl⟩ <;> simp only [Frame.finish, htd]
        · exact f1
        · exact f3
        · exact .cons (.endRangeFunc hl) h2
        · exact f5
        · exact f6
        · exact f7
        · exact f8
  · cases hf

theorem raise_sim {fr : AFrame} {fr' : Frame} (F : FRel e fr fr') {ps ps' : List PanicEntry} (hp : PsRel e ps ps') : FRel e (raiseA fr ps) (fr'.raise ps') ∧ (raiseA fr ps).fn = fr.fn := by
  obtain ⟨f1, f2, f3, f4, f5, f6, f7, f8⟩ := F
  cases fr with
  | mk fn n tmps todo defers mode kind roundOf =>
  cases fr' with
  | mk fn' tmps' todo' defers' mode' kind' roundOf' =>
  simp only at *
  cases f6 with
  | run => exact ⟨⟨f1, f2, f3, f4, f5, .panicking hp, f7, f8⟩, rfl⟩
  | returning => exact ⟨⟨f1, f2, f3, f4, f5, .panicking hp, f7, f8⟩, rfl⟩
  | panicking h => exact ⟨⟨f1, f2, f3, f4, f5, .panicking (hp.append h), f7, f8⟩, rfl⟩

theorem ofList_get {xs : List Value} : ∀ (i : Nat) (t : PT Value) (j : Nat), i + xs.length < 1000000 → (PT.ofList xs i t).get j = if i ≤ j ∧ j < i + xs.length then xs[j - i]? else t.get j := by
  induction xs with
  | nil => intro i t j _; simp [PT.ofList]; omega
  | cons x xs ih =>
    intro i t j hl
    simp only [List.length_cons] at hl
    rw [PT.ofList, ih _ _ _ (by omega), PT.get_set _ _ _ _ (by unfold far; omega)]
    by_cases h1 : i + 1 ≤ j ∧ j < i + 1 + xs.length
    · rw [if_pos h1, if_pos (by simp only [List.length_cons]; omega), show j - i = (j - (i + 1)) + 1 by omega, List.getElem?_cons_succ]
    · rw [if_neg h1]
      by_cases h2 : j = i
      · subst h2; rw [if_pos rfl, if_pos (by simp only [List.length_cons]; omega)]; simp
      · rw [if_neg h2, if_neg (by simp only [List.length_cons]; omega)]

theorem enter_sim {f : FuncId} {args : List Value} {args' : Array Value} {kind : CallKind} {fr : AFrame} (hV : VsRel e args args'.toList) (hf : enterA P f args kind = some fr) : FRel e fr (Frame.enter P f args' kind) ∧ fr.fn = f := by
  unfold enterA at hf
  split at hf
  case h_2 => cases hf
  rename_i fn hfn
  split at hf
  case h_2 => cases hf
  rename_i c hc
  obtain ⟨hn, hf⟩ := cond_some hf
  cases hf
  simp only [nblt, decide_eq_true_eq] at hn
  have hsz : args'.size = args.length := by have := hV.1; simp at this; exact this.symm
  refine ⟨⟨rfl, hn, ⟨?_, fun i => ?_⟩, ?_, .nil, .run, rfl, trivial⟩, rfl⟩
  · simp only [Frame.enter, hfn, Option.map_some, Option.getD_some, Array.size_append, Array.size_replicate, hsz]
    omega
  · rw [ofList_get _ _ _ (by omega)]
    simp only [Frame.enter, hfn, Option.map_some, Option.getD_some]
    rw [Array.getD_eq_getD_getElem?]
    by_cases hi : i < args.length
    · rw [if_pos (by omega), Array.getElem?_append_left (by omega), Nat.sub_zero]
      have hx : args[i]? = some args[i] := List.getElem?_eq_getElem hi
      obtain ⟨y, hy, hV2⟩ := hV.get hx
      rw [Array.getElem?_toList] at hy
      rw [hx, hy]; exact hV2
    · rw [if_neg (by omega), Array.getElem?_append_right (by omega)]
      have h1 : (PT.leaf : PT Value).get i = none := rfl
      rw [h1, Array.getElem?_replicate]
      split
      · exact undef_rel e
      · exact undef_rel e
  · simp only [Frame.enter, hfn, hc, Option.bind_some, Option.getD_some]
    exact .cons (.code c) .nil
end
end Go.AM

namespace Go.AM
open Go Go.RowKit

section
variable {P : Program} {X : FuncId → List Value → Option Value} {e : Env} {B0 : Nat} {h : AH} {w : World}

/-- the machine goes on to a state that is as the abstract one. -/
def Goes (P : Program) (B0 : Nat) (e : Env) (cs : List Frame) (fr' : Frame) (frs : List Frame) (w : World) (s1 : AS) : Prop :=
  ∃ e' fr1 frs1 w1, e.le e' ∧ Steps P (lone fr' (frs ++ cs) w) (lone fr1 (frs1 ++ cs) w1) ∧ FRel e' s1.fr fr1 ∧ FsRel e' s1.callers frs1 ∧ HRel e' B0 s1.h w1 ∧ Below B0 w w1

theorem Goes.trans {e' : Env} {cs : List Frame} {fr' fr1 : Frame} {frs frs1 : List Frame} {w1 : World} {s1 : AS} (hle : e.le e') (hs : Steps P (lone fr' (frs ++ cs) w) (lone fr1 (frs1 ++ cs) w1)) (hb : Below B0 w w1)
    (hg : Goes P B0 e' cs fr1 frs1 w1 s1) : Goes P B0 e cs fr' frs w s1 := by
  obtain ⟨e2, fr2, frs2, w2, h1, h2, h3, h4, h5, h6⟩ := hg
  exact ⟨e2, fr2, frs2, w2, Env.le_trans hle h1, hs.trans h2, h3, h4, h5, hb.trans h6⟩

theorem todo_plain {l : List AItem} {m : List Item} (hI : IsRel e l m) : ∀ d b r s k, m ≠ .call d b r s :: k := by
  intro d b r s k hm
  subst hm
  cases hI with
  | cons h1 h2 => cases h1

theorem apply_enter {fr' : Frame} {cs : List Frame} {s : Sem Next} {f : FuncId} {args : Array Value} {w' : World} (hnc : ∀ d b r s k, fr'.todo ≠ .call d b r s :: k) (hr : s.run P w = .ok (.enter f args) w') :
    (stepG.apply P true fr' cs none s w).bare = .go { frame := Frame.enter P f args .normal, callers := fr' :: cs, status := .running, dying := none } w' := by
  cases ht : fr'.todo with
  | nil => simp [stepG.apply, Sem.runT_eq, hr, ht]
  | cons a m =>
    cases a with
    | call d b r s => exact (hnc _ _ _ _ _ ht).elim
    | _ => simp [stepG.apply, Sem.runT_eq, hr, ht]

theorem after_sim {fr : AFrame} {fr' fr0 : Frame} {w0 : World} {callers : List AFrame} {frs cs : List Frame} {s : Sem Next} {n : ANext} {s1 : AS} (F : FRel e fr fr') (Fs : FsRel e callers frs)
    (hO : Out e B0 w n (s.run P w)) (hx : afterA P fr callers n = some s1)
    (hstep : (stepG P true { frame := fr0, callers := frs ++ cs, status := .running, dying := none } w0).bare = (stepG.apply P true fr' (frs ++ cs) none s w).bare) (hb0 : Below B0 w0 w) :
    Goes P B0 e cs fr0 frs w0 s1 := by
  obtain ⟨e', hle, hO⟩ := hO
  have F' := F.mono hle
  have Fs' := Fs.mono hle
  cases n with
  | value v h =>
    obtain ⟨v', w', hr, hv, H', hb⟩ := hO
    obtain ⟨fr1, hf, rfl⟩ := opt_map_some hx
    exact ⟨e', fr'.finish v', frs, w', hle, .one (step_lone_go (by rw [hstep]; simp [stepG.apply, Sem.runT_eq, hr])), (finish_sim F' hv hf).1, Fs', H', hb0.trans hb⟩
  | skip h =>
    obtain ⟨w', hr, H', hb⟩ := hO
    obtain ⟨fr1, hf, rfl⟩ := opt_map_some hx
    exact ⟨e', fr'.finish undef, frs, w', hle, .one (step_lone_go (by rw [hstep]; simp [stepG.apply, Sem.runT_eq, hr])), (finish_sim F' (undef_rel e') hf).1, Fs', H', hb0.trans hb⟩
  | enter f args h =>
    obtain ⟨args', w', hr, hv, H', hb⟩ := hO
    obtain ⟨g, hf, rfl⟩ := opt_map_some hx
    exact ⟨e', Frame.enter P f args' .normal, fr' :: frs, w', hle, .one (step_lone_go (by rw [hstep]; exact apply_enter (todo_plain F.todo) hr)), (enter_sim hv hf).1, .cons F' Fs', H', hb0.trans hb⟩
  | round l f tmps n assign body h =>
    obtain ⟨l', tmps', w', hr, hl, hn, hT, H', hb⟩ := hO
    cases hx
    refine ⟨e', Frame.round l' f tmps' assign body .normal, fr' :: frs, w', hle, .one (step_lone_go (by rw [hstep]; simp [stepG.apply, Sem.runT_eq, hr])), ?_, .cons F' Fs', H', hb0.trans hb⟩
    exact ⟨rfl, hn, hT, .cons (.code _) (.cons .beginRound (.cons (.code _) .nil)), .nil, .run, rfl, hl⟩
  | defer d h =>
    obtain ⟨d', w', hr, hd, H', hb⟩ := hO
    simp only [afterA] at hx
    split at hx
    case h_2 => cases hx
    rename_i hro
    obtain ⟨fr1, hf, rfl⟩ := opt_map_some hx
    have F2 : FRel e' { fr with defers := d :: fr.defers } { fr' with defers := d' :: fr'.defers } := ⟨F'.fn, F'.small, F'.tmps, F'.todo, .cons hd F'.defers, F'.mode, F'.kind, F'.round⟩
    exact ⟨e', ({ fr' with defers := d' :: fr'.defers } : Frame).finish undef, frs, w', hle, .one (step_lone_go (by rw [hstep]; simp [stepG.apply, Sem.runT_eq, hr])), (finish_sim F2 (undef_rel e') hf).1, Fs', H', hb0.trans hb⟩
  | recover h =>
    obtain ⟨w', hr, H', hb⟩ := hO
    simp only [afterA] at hx
    split at hx
    case h_2 => cases hx
    rename_i hro
    obtain ⟨⟨v, callers2⟩, hrec, hx⟩ := opt_bind_some hx
    obtain ⟨fr1, hf, rfl⟩ := opt_map_some hx
    have hro' : fr'.roundOf = none := by
      have := F.round
      rw [hro] at this
      cases hq : fr'.roundOf with
      | none => rfl
      | some l => rw [hq] at this; exact this.elim
    have hkind := F.kind
    have hgo : ∀ (v' : Value) (frs2 : List Frame), ((tryRecover fr' (frs ++ cs) = some (v', frs2 ++ cs)) ∨ (tryRecover fr' (frs ++ cs) = none ∧ v' = .nilIface ∧ frs2 = frs)) → VRel e' v v' → FsRel e' callers2 frs2 →
        Goes P B0 e cs fr0 frs w0 { fr := fr1, callers := callers2, h := h } := by
      intro v' frs2 hc hv hfs
      refine ⟨e', fr'.finish v', frs2, w', hle, .one (step_lone_go ?_), (finish_sim F' hv hf).1, hfs, H', hb0.trans hb⟩
      rcases hc with hc | ⟨hc, rfl, rfl⟩
      · rw [hstep]; simp [stepG.apply, Sem.runT_eq, hr, hro', hc]
      · rw [hstep]; simp [stepG.apply, Sem.runT_eq, hr, hro', hc]
    unfold recoverA at hrec
    split at hrec
    · rename_i hk2
      cases hrec
      refine hgo .nilIface frs (.inr ⟨?_, rfl, rfl⟩) .nilIface Fs'
      unfold tryRecover
      rw [hkind, hk2]
    · rename_i c rest hk2
      cases Fs' with
      | @cons _ c' _ rest' hc hrest =>
        obtain ⟨cf, cn, ct, ctd, cd, cm, ck, cr⟩ := hc
        have hnone : (∀ (p : PanicEntry) (older : List PanicEntry), c'.mode = .panicking (p :: older) → p.recovered = false → p.goexit = false → False) → tryRecover fr' (c' :: rest' ++ cs) = none := by
          intro hno
          unfold tryRecover
          rw [hkind, hk2]
          simp only [List.cons_append]
          split
          · rename_i v older hmm
            exact (hno _ _ hmm rfl rfl).elim
          · rfl
        split at hrec
        · rename_i v0 older hmode
          cases hrec
          rw [hmode] at cm
          generalize hcm : c'.mode = cmode at cm
          cases cm with
          | panicking hp =>
            cases hp with
            | @cons _ v' _ _ _ m hv hl =>
              refine hgo v' ({ c' with mode := .panicking ({ v := v', recovered := true } :: m) } :: rest') (.inl ?_) hv (.cons ⟨cf, cn, ct, ctd, cd, .panicking (.cons hv hl), ck, cr⟩ hrest)
              unfold tryRecover
              rw [hkind, hk2]
              simp only [List.cons_append, hcm]
        · rename_i hno
          cases hrec
          refine hgo .nilIface (c' :: rest') (.inr ⟨hnone ?_, rfl, rfl⟩) .nilIface (.cons ⟨cf, cn, ct, ctd, cd, cm, ck, cr⟩ hrest)
          intro p older hmm hp1 hp2
          rw [hmm] at cm
          generalize hcm : c.mode = cmode at cm
          cases cm with
          | panicking hp =>
            cases hp with
            | cons hv hl =>
              simp only at hp1 hp2
              subst hp1; subst hp2
              exact hno _ _ hcm
    · cases hrec
  | panic v h =>
    obtain ⟨v', w', hr, hv, H', hb⟩ := hO
    cases hx
    exact ⟨e', fr'.raise [{ v := v', recovered := false }], frs, w', hle, .one (step_lone_go (by rw [hstep]; simp [stepG.apply, Sem.runT_eq, hr])), (raise_sim F' (.cons hv .nil)).1, Fs', H', hb0.trans hb⟩
end
end Go.AM

namespace Go.AM
open Go Go.RowKit

section
variable {P : Program} {X : FuncId → List Value → Option Value} {e : Env} {B0 : Nat} {h : AH} {w : World}

theorem exitTo_sim {id : Nat} : ∀ {k : List AItem} {k' : List Item}, IsRel e k k' → match exitToA id k with
    | some k2 => ∃ k2', exitTo id k' = some k2' ∧ IsRel e k2 k2'
    | none => exitTo id k' = none
  | [], _, .nil => rfl
  | _ :: k, _ :: k', .cons h1 h2 => by
    have ih := exitTo_sim (id := id) h2
    cases h1 with
    | inBlock i =>
      simp only [exitToA, exitTo, nbeq]
      by_cases hi : i = id
      · subst hi; simp only [decide_true, cond_true, beq_self_eq_true, if_true]; exact ⟨k', rfl, h2⟩
      · have : (i == id) = false := by simpa using hi
        simp only [hi, decide_false, cond_false, this, Bool.false_eq_true, if_false]; exact ih
    | code c => exact ih
    | inLoop c => exact ih
    | inRegion hi => exact ih
    | inRangeFunc hl => exact ih
    | endRangeFunc hl => exact ih
    | beginRound => exact ih

theorem frame_atR {fr' : Frame} (hm : fr'.mode = .run) {td : List Item} (ht : fr'.todo = td) : fr' = fr'.atR ⟨fr'.tmps, fr'.defers⟩ td := by
  cases fr'
  simp only at hm ht
  subst hm; subst ht
  rfl

theorem act_eval {fr' : Frame} : Act.eval ⟨fr'.tmps, fr'.defers⟩ = fr'.eval := funext fun x => by cases x <;> rfl

theorem mode_run {fr : AFrame} {fr' : Frame} (F : FRel e fr fr') (hm : fr.mode = .run) : fr'.mode = .run := by
  have := F.mode
  rw [hm] at this
  generalize hq : fr'.mode = m at this
  cases this; rfl

theorem round_none {fr : AFrame} {fr' : Frame} (F : FRel e fr fr') (hm : fr.roundOf = none) : fr'.roundOf = none := by
  have := F.round
  rw [hm] at this
  cases hq : fr'.roundOf with
  | none => rfl
  | some l => rw [hq] at this; exact this.elim

theorem round_some {fr : AFrame} {fr' : Frame} {l : Nat} (F : FRel e fr fr') (hm : fr.roundOf = some l) : ∃ l', fr'.roundOf = some l' ∧ e.loc l = some (l', 0) := by
  have := F.round
  rw [hm] at this
  cases hq : fr'.roundOf with
  | none => rw [hq] at this; exact this.elim
  | some l' => rw [hq] at this; exact ⟨l', rfl, this⟩

theorem HRel.getLoop (H : HRel e B0 h w) {l l' d : Nat} {st : LoopState} {pend : Option Code} {fn : FuncId} {tmps : PT Value} {n : Nat} {params : List Tmp} {assign body : Code} {dfs : Nat} (hl : e.loc l = some (l', d))
    (hg : h.tree.get l = some (.loop st pend fn tmps n params assign body dfs)) : ∃ r, w.heap[l']? = some (.loop r) ∧ (Instr.getLoop l').run P w = .ok r w ∧
      r.state = st ∧ r.pending = pend ∧ r.fn = fn ∧ n < 1000000 ∧ TmpsRel e tmps n r.tmps ∧ r.params.toList = params ∧ r.assign = assign ∧ r.body = body ∧ e.loc dfs = some (r.defers, 0) := by
  obtain ⟨_, ⟨o', hh, hO⟩, _⟩ := H.obj hl hg rfl
  cases o' <;> simp only [ObjRel] at hO
  rename_i r
  exact ⟨r, hh, by simp [Instr.getLoop, run_getObj_any hh (fun _ _ _ h => by cases h)], hO⟩

/-- a step that turns the frame's todo alone. -/
theorem Goes.todo {s : AS} {fr' fr1 : Frame} {frs cs : List Frame} {k : List AItem} {k' : List Item} (F : FRel e s.fr fr') (Fs : FsRel e s.callers frs) (H : HRel e B0 s.h w) (hk : IsRel e k k')
    (hs : step P (lone fr' (frs ++ cs) w) = .next (lone fr1 (frs ++ cs) w)) (hfr : fr1 = fr'.atR ⟨fr'.tmps, fr'.defers⟩ k') (hm : s.fr.mode = .run) :
    Goes P B0 e cs fr' frs w { s with fr := { s.fr with todo := k } } := by
  subst hfr
  refine ⟨e, _, frs, w, Env.le_refl e, .one hs, ⟨F.fn, F.small, F.tmps, hk, F.defers, ?_, F.kind, F.round⟩, Fs, H, Below.refl _ _⟩
  show ModeRel e s.fr.mode .run
  rw [hm]; exact .run

theorem leave_sim {s s1 : AS} {fr' : Frame} {frs cs : List Frame} {jump : Option Code} {plain : Bool} (F : FRel e s.fr fr') (Fs : FsRel e s.callers frs) (H : HRel e B0 s.h w) (_hm : s.fr.mode = .run) (hx : leaveA s jump plain = some s1)
    (hnone : plain = true → fr'.roundOf = none → step P (lone fr' (frs ++ cs) w) = .next (lone { fr' with mode := .returning } (frs ++ cs) w))
    (hsome : ∀ (l : Nat) (c : Frame) (cs' : List Frame) (v : Value) (w' : World), fr'.roundOf = some l → fr'.kind = .normal → (Instr.endRound l jump).run P w = .ok v w' → step P (lone fr' (c :: cs') w) = .next (lone (c.finish v) cs' w')) :
    Goes P B0 e cs fr' frs w s1 := by
  unfold leaveA at hx
  split at hx
  · rename_i hro
    obtain ⟨hp, hx⟩ := cond_some hx
    cases hx
    exact ⟨e, _, frs, w, Env.le_refl e, .one (hnone hp (round_none F hro)), ⟨F.fn, F.small, F.tmps, F.todo, F.defers, .returning, F.kind, F.round⟩, Fs, H, Below.refl _ _⟩
  · rename_i l hro
    obtain ⟨l', hro', hl⟩ := round_some F hro
    split at hx
    case h_2 => cases hx
    rename_i st pend fn tmps n params assign body dfs c rest hg hcs
    obtain ⟨hlow, hg⟩ := cond_some hg
    simp only [nble, decide_eq_true_eq] at hlow
    split at hx
    case h_2 => cases hx
    rename_i hk
    obtain ⟨c1, hf, rfl⟩ := opt_map_some hx
    rw [hcs] at Fs
    cases Fs with
    | @cons _ c' _ rest' hc hrest =>
      obtain ⟨r, hh, hgl, h1, h2, h3, hn, hT, h5, h6, h7, h8⟩ := H.getLoop (P := P) hl hg
      have hB := (H.low hl).2 hlow
      have hset : ∀ o2, (setObj l' o2).run P w = .ok () { w with heap := w.heap.setIfInBounds l' o2 } := fun o2 => run_setObj_any hh (fun _ _ _ h => by cases h)
      have her : (Instr.endRound l' jump).run P w = .ok (.bool jump.isNone) { w with heap := w.heap.setIfInBounds l' (.loop { r with state := if jump.isNone then .ready else .done, pending := jump }) } := by
        simp [Instr.endRound, hgl, hset]
      have hst := hsome l' c' (rest' ++ cs) _ _ hro' (by rw [F.kind]; exact hk) her
      refine ⟨e, _, rest', _, Env.le_refl e, .one hst, (finish_sim hc (.bool _) hf).1, hrest, H.setObj (o2' := .loop { r with state := if jump.isNone then .ready else .done, pending := jump }) hl hg rfl rfl ?_, below_set hB _⟩
      refine ⟨?_, rfl, h3, hn, hT, h5, h6, h7, h8⟩
      cases jump <;> rfl
end
end Go.AM

namespace Go.AM
open Go Go.RowKit

section
variable {P : Program} {X : FuncId → List Value → Option Value} {e : Env} {B0 : Nat} {h : AH} {w : World}

theorem bool_of_rel {v : Value} {b : Bool} (h : VRel e v (.bool b)) : v = .bool b := by cases h; rfl

theorem yielded_eq {ops : Array Oper} {t : PT Value} {n : Nat} {a : Array Value} (hT : TmpsRel e t n a) (j : Nat) : yielded ops a j = yieldedA ops t j := by
  unfold yielded yieldedA
  cases ho : ops[j]? with
  | none => rfl
  | some o =>
    simp only [Option.bind_some]
    cases hd : o.dst with
    | none => rfl
    | some d =>
      simp only [Option.bind_some]
      have := hT.2 d
      rw [Array.getD_eq_getD_getElem?] at this
      cases ha : a[d]? with
      | none =>
        rw [ha] at this
        simp only [Option.getD_none] at this
        cases hg : t.get d with
        | none => rfl
        | some v =>
          rw [hg] at this
          simp only [Option.getD_some] at this
          cases v <;> first | rfl | (cases this)
      | some v' =>
        rw [ha] at this
        simp only [Option.getD_some] at this
        cases hg : t.get d with
        | none =>
          rw [hg] at this
          simp only [Option.getD_none] at this
          cases v' <;> first | rfl | (cases this)
        | some v =>
          rw [hg] at this
          simp only [Option.getD_some] at this
          cases this <;> rfl

theorem wanted_eq {ops : Array Oper} {t : PT Value} {n : Nat} {a : Array Value} (hT : TmpsRel e t n a) (o : Oper) : Region.wanted o (yielded ops a) = wantedA ops t o := by
  unfold Region.wanted wantedA
  cases o.guard with
  | none => rfl
  | some p =>
    obtain ⟨j, want⟩ := p
    simp only [yielded_eq hT j]
    cases yieldedA ops t j with
    | none => rfl
    | some b => cases b <;> cases want <;> rfl

theorem range_idx (ops : Array Oper) : IdxRel ops ops.toList (List.range ops.size) := by
  unfold IdxRel
  apply List.ext_getElem?
  intro i
  simp only [List.getElem?_map]
  by_cases hi : i < ops.size
  · rw [List.getElem?_range hi]; simp [hi]
  · rw [List.getElem?_eq_none (by simp; omega), List.getElem?_eq_none (by simp; omega)]; rfl

theorem op_defer {ρ : Operand → Value} {o : Oper} {c : Call} {n : ANext} (ho : o.op = .defer c) (hx : execA P X h ρ o = some n) : ∃ d h', n = .defer d h' := by
  unfold execA at hx
  obtain ⟨_, hx⟩ := cond_some hx
  unfold opA at hx
  rw [ho] at hx
  simp only [] at hx
  split at hx
  case h_2 => cases hx
  obtain ⟨d, _, rfl⟩ := opt_map_some hx
  exact ⟨d, h, rfl⟩

theorem enterLoop_sim (H : HRel e B0 h w) {fr : AFrame} {fr' : Frame} (F : FRel e fr fr') {params : Array Tmp} {assign body : Code} {h1 : AH} {l : Nat} {mark : List Deferred} (hx : enterLoopA h fr params.toList assign body = some (h1, l, mark)) :
    ∃ e' l' mark' w', e.le e' ∧ (Instr.enterLoop fr'.fn fr'.tmps params assign body fr'.roundOf).run P w = .ok (l', mark') w' ∧ e'.loc l = some (l', 0) ∧ DsRel e' mark mark' ∧ HRel e' B0 h1 w' ∧ Below B0 w w' := by
  unfold enterLoopA at hx
  split at hx
  · rename_i l0 hro
    obtain ⟨l0', hro', hl0⟩ := round_some F hro
    split at hx
    case h_2 => cases hx
    rename_i d hg
    obtain ⟨⟨h2, l2⟩, hn, hx⟩ := opt_map_some hx
    cases hx
    obtain ⟨r, hh, hgl, _, _, _, _, _, _, _, _, hd⟩ := H.getLoop (P := P) hl0 hg
    obtain ⟨e', hle, H', hloc, hb⟩ := newObj_sim H hn rfl (.loop { state := .ready, pending := none, fn := fr'.fn, tmps := fr'.tmps, params, assign, body, defers := r.defers })
      (fun e' hle => ⟨rfl, rfl, F.fn, F.small, F.tmps.mono hle, rfl, rfl, rfl, hle.loc _ _ _ hd⟩)
    refine ⟨e', w.heap.size, [], _, hle, ?_, hloc, .nil, H', hb⟩
    simp [Instr.enterLoop, hro', hgl]
  · rename_i hro
    have hro' := round_none F hro
    obtain ⟨⟨h2, r⟩, hn2, hx⟩ := opt_bind_some hx
    obtain ⟨⟨h3, l3⟩, hn3, hx⟩ := opt_map_some hx
    cases hx
    obtain ⟨e2, hle2, H2, hloc2, hb2⟩ := newObj_sim H hn2 rfl (.deferred (some [])) (fun e' hle => DsRel.nil)
    obtain ⟨e3, hle3, H3, hloc3, hb3⟩ := newObj_sim H2 hn3 rfl (.loop { state := .ready, pending := none, fn := fr'.fn, tmps := fr'.tmps, params, assign, body, defers := w.heap.size })
      (fun e' hle => ⟨rfl, rfl, F.fn, F.small, F.tmps.mono (Env.le_trans hle2 hle), rfl, rfl, rfl, hle.loc _ _ _ hloc2⟩)
    refine ⟨e3, w.heap.size + 1, [{ target := .collected w.heap.size, args := #[] }], _, Env.le_trans hle2 hle3, ?_, ?_, .cons ⟨.collected (hle3.loc _ _ _ hloc2), VsRel.nil⟩ .nil, H3, hb2.trans hb3⟩
    · simp [Instr.enterLoop, hro']
      rfl
    · simpa using hloc3

/-- a step of a frame that runs, other than the entry of a region that draws. -/
theorem run_sim (G : Good P X) {sub : AH → FuncId → List Value → Option (Value × AH)} {s s1 : AS} {fr' : Frame} {frs cs : List Frame} (F : FRel e s.fr fr') (Fs : FsRel e s.callers frs) (H : HRel e B0 s.h w) (hm : s.fr.mode = .run)
    (hx : stepA P X sub s = some s1)
    (hdraw : ∀ id ops k T h1, s.fr.todo = .code (.region id ops true) :: k → drawR P X sub ops s.fr.n s.fr.tmps s.h = some (T, h1) → s1 = { s with fr := { s.fr with tmps := T, todo := k }, h := h1 } → Goes P B0 e cs fr' frs w s1) :
    Goes P B0 e cs fr' frs w s1 := by
  unfold stepA at hx
  rw [hm] at hx
  simp only [] at hx
  have hm' := mode_run F hm
  have Ft := F.todo
  have heval := act_eval (fr' := fr')
  split at hx
  · rename_i htodo
    rw [htodo] at Ft
    generalize htd : fr'.todo = td at Ft
    cases Ft
    have hq := frame_atR hm' htd
    refine leave_sim F Fs H hm hx (fun _ hro => ?_) (fun l c cs' v w' hro hk her => ?_)
    · have := stepR_end (P := P) (b := fr') (a := ⟨fr'.tmps, fr'.defers⟩) (cs := frs ++ cs) (w := w) hro
      rw [← hq] at this; exact this
    · have := stepR_round_end (P := P) (b := fr') (a := ⟨fr'.tmps, fr'.defers⟩) (c := c) (cs := cs') (w := w) hro hk her
      rw [← hq] at this; exact this
  · rename_i k htodo
    rw [htodo] at Ft
    generalize htd : fr'.todo = td at Ft
    cases Ft with
    | @cons _ _ _ k' h1 h2 =>
      cases h1
      have hq := frame_atR hm' htd
      refine leave_sim F Fs H hm hx (fun _ hro => ?_) (fun l c cs' v w' hro hk her => ?_)
      · have := stepR_ret (P := P) (b := fr') (a := ⟨fr'.tmps, fr'.defers⟩) (k := k') (cs := frs ++ cs) (w := w) hro
        rw [← hq] at this; exact this
      · have := stepR_round_ret (P := P) (b := fr') (a := ⟨fr'.tmps, fr'.defers⟩) (k := k') (c := c) (cs := cs') (w := w) hro hk her
        rw [← hq] at this; exact this
  · rename_i k htodo
    cases hx
    rw [htodo] at Ft
    generalize htd : fr'.todo = td at Ft
    cases Ft with
    | @cons _ _ _ k' h1 h2 =>
      cases h1
      have hq := frame_atR hm' htd
      have := stepR_skip (P := P) (b := fr') (a := ⟨fr'.tmps, fr'.defers⟩) (k := k') (cs := frs ++ cs) (w := w)
      rw [← hq] at this
      exact Goes.todo F Fs H h2 this rfl hm
  · rename_i id k htodo
    cases hx
    rw [htodo] at Ft
    generalize htd : fr'.todo = td at Ft
    cases Ft with
    | @cons _ _ _ k' h1 h2 =>
      cases h1
      have hq := frame_atR hm' htd
      have := stepR_inBlock (P := P) (b := fr') (a := ⟨fr'.tmps, fr'.defers⟩) (id := id) (k := k') (cs := frs ++ cs) (w := w)
      rw [← hq] at this
      exact Goes.todo F Fs H h2 this rfl hm
  · rename_i a b k htodo
    cases hx
    rw [htodo] at Ft
    generalize htd : fr'.todo = td at Ft
    cases Ft with
    | @cons _ _ _ k' h1 h2 =>
      cases h1
      have hq := frame_atR hm' htd
      have := stepR_seq (P := P) (b := fr') (a := ⟨fr'.tmps, fr'.defers⟩) (x := a) (y := b) (k := k') (cs := frs ++ cs) (w := w)
      rw [← hq] at this
      exact Goes.todo F Fs H (.cons (.code a) (.cons (.code b) h2)) this rfl hm
  · rename_i c a b k htodo
    split at hx
    case h_2 => cases hx
    rename_i t hc
    cases hx
    rw [htodo] at Ft
    generalize htd : fr'.todo = td at Ft
    cases Ft with
    | @cons _ _ _ k' h1 h2 =>
      cases h1
      have hq := frame_atR hm' htd
      have hev : fr'.eval c = .bool t := by
        cases c with
        | tmp x =>
          have := F.tmps.2 x
          have hc' : (s.fr.tmps.get x).getD undef = .bool t := hc
          rw [hc'] at this
          show fr'.tmps.getD x undef = .bool t
          generalize fr'.tmps.getD x undef = z at this
          cases this; rfl
        | const v => exact hc
        | global g => cases hc
        | func f => cases hc
      have hact : Act.eval ⟨fr'.tmps, fr'.defers⟩ c = .bool t := by rw [heval]; exact hev
      have := stepR_cond (P := P) (b := fr') (a := ⟨fr'.tmps, fr'.defers⟩) (c := c) (x := a) (y := b) (t := t) (k := k') (cs := frs ++ cs) (w := w) hact
      rw [← hq] at this
      have hcond : (cond t a b) = (if t = true then a else b) := by cases t <;> rfl
      rw [hcond]
      exact Goes.todo F Fs H (.cons (.code _) h2) this rfl hm
  · rename_i id body k htodo
    cases hx
    rw [htodo] at Ft
    generalize htd : fr'.todo = td at Ft
    cases Ft with
    | @cons _ _ _ k' h1 h2 =>
      cases h1
      have hq := frame_atR hm' htd
      have := stepR_block (P := P) (b := fr') (a := ⟨fr'.tmps, fr'.defers⟩) (id := id) (c := body) (k := k') (cs := frs ++ cs) (w := w)
      rw [← hq] at this
      exact Goes.todo F Fs H (.cons (.code body) (.cons (.inBlock id) h2)) this rfl hm
  · rename_i body k htodo
    cases hx
    rw [htodo] at Ft
    generalize htd : fr'.todo = td at Ft
    cases Ft with
    | @cons _ _ _ k' h1 h2 =>
      cases h1
      have hq := frame_atR hm' htd
      have := stepR_loop (P := P) (b := fr') (a := ⟨fr'.tmps, fr'.defers⟩) (c := body) (k := k') (cs := frs ++ cs) (w := w)
      rw [← hq] at this
      exact Goes.todo F Fs H (.cons (.code body) (.cons (.inLoop body) h2)) this rfl hm
  · rename_i body k htodo
    cases hx
    rw [htodo] at Ft
    generalize htd : fr'.todo = td at Ft
    cases Ft with
    | @cons _ _ _ k' h1 h2 =>
      cases h1
      have hq := frame_atR hm' htd
      have := stepR_inLoop (P := P) (b := fr') (a := ⟨fr'.tmps, fr'.defers⟩) (c := body) (k := k') (cs := frs ++ cs) (w := w)
      rw [← hq] at this
      exact Goes.todo F Fs H (.cons (.code body) (.cons (.inLoop body) h2)) this rfl hm
  · rename_i id k htodo
    rw [htodo] at Ft
    generalize htd : fr'.todo = td at Ft
    cases Ft with
    | @cons _ _ _ k' h1 h2 =>
      cases h1
      have hq := frame_atR hm' htd
      have hex := exitTo_sim (id := id) h2
      split at hx
      · rename_i k2 hk2
        rw [hk2] at hex
        obtain ⟨k2', he2, hr2⟩ := hex
        cases hx
        have := stepR_exit (P := P) (b := fr') (a := ⟨fr'.tmps, fr'.defers⟩) (id := id) (k := k') (cs := frs ++ cs) (w := w) he2
        rw [← hq] at this
        exact Goes.todo F Fs H hr2 this rfl hm
      · rename_i hk2
        rw [hk2] at hex
        refine leave_sim F Fs H hm hx (fun hp _ => by cases hp) (fun l c cs' v w' hro hk her => ?_)
        have := stepR_round_exit (P := P) (b := fr') (a := ⟨fr'.tmps, fr'.defers⟩) (k := k') (c := c) (cs := cs') (w := w) hro hk hex her
        rw [← hq] at this; exact this
  · rename_i id ops draw k htodo
    cases draw with
    | true =>
      rw [cond_true] at hx
      obtain ⟨⟨T, h1⟩, hd, hx⟩ := opt_map_some hx
      exact hdraw id ops k T h1 htodo hd hx.symm
    | false =>
      rw [cond_false] at hx
      cases hx
      rw [htodo] at Ft
      generalize htd : fr'.todo = td at Ft
      cases Ft with
      | @cons _ _ _ k' h1 h2 =>
        cases h1
        have hq := frame_atR hm' htd
        have := stepR_region (P := P) (b := fr') (a := ⟨fr'.tmps, fr'.defers⟩) (id := id) (ops := ops) (k := k') (cs := frs ++ cs) (w := w)
        rw [← hq] at this
        exact Goes.todo F Fs H (.cons (.inRegion (range_idx ops)) h2) this rfl hm
  · rename_i ops k htodo
    cases hx
    rw [htodo] at Ft
    generalize htd : fr'.todo = td at Ft
    cases Ft with
    | @cons _ _ _ k' h1 h2 =>
      cases h1 with
      | inRegion hi =>
        have := hi.nil_inv
        subst this
        have hq := frame_atR hm' htd
        have := stepR_region_end (P := P) (b := fr') (a := ⟨fr'.tmps, fr'.defers⟩) (ops := ops) (k := k') (cs := frs ++ cs) (w := w)
        rw [← hq] at this
        exact Goes.todo F Fs H h2 this rfl hm
  · rename_i ops o rest k htodo
    rw [htodo] at Ft
    generalize htd : fr'.todo = td at Ft
    cases Ft with
    | @cons _ _ _ k' h1 h2 =>
      cases h1 with
      | inRegion hi =>
        obtain ⟨i, l, rfl, ho, hl⟩ := hi.cons_inv
        have hq := frame_atR hm' htd
        have hw := wanted_eq (ops := ops) F.tmps o
        cases hwant : wantedA ops s.fr.tmps o with
        | false =>
          rw [hwant, cond_false] at hx
          rw [hwant] at hw
          obtain ⟨fr1, hf, rfl⟩ := opt_map_some hx
          have hsk : ((ops[i]?).map (Region.wanted · (yielded ops (Act.mk fr'.tmps fr'.defers).tmps))).getD false = false := by rw [ho]; exact hw
          have := stepR_op_skip (P := P) (b := fr') (a := ⟨fr'.tmps, fr'.defers⟩) (k := k') (rest := l) (cs := frs ++ cs) (w := w) hsk
          rw [← Frame.finish_atR, ← hq] at this
          exact ⟨e, _, frs, w, Env.le_refl e, .one this, (finish_sim F (undef_rel e) hf).1, Fs, H, Below.refl _ _⟩
        | true =>
          rw [hwant, cond_true] at hx
          rw [hwant] at hw
          obtain ⟨n, hn, hx⟩ := opt_bind_some hx
          have hO := exec_sim G H (fun x _ hx => F.eval hx) hn
          have hst := stepGR_op (P := P) (b := fr') (a := ⟨fr'.tmps, fr'.defers⟩) (k := k') (rest := l) (cs := frs ++ cs) (w := w) ho hw
          have hsem : o.semAt fr'.roundOf (Act.eval ⟨fr'.tmps, fr'.defers⟩) = execOp fr'.eval o := by
            rw [heval]
            cases hro : fr'.roundOf with
            | none => rfl
            | some l' =>
              refine Oper.semAt_eq _ _ _ (fun c hc => ?_)
              obtain ⟨d, h', rfl⟩ := op_defer hc hn
              simp only [afterA] at hx
              cases hra : s.fr.roundOf with
              | none => have := round_none F hra; rw [hro] at this; cases this
              | some l2 => rw [hra] at hx; cases hx
          rw [hsem, ← hq] at hst
          exact after_sim F Fs hO hx (congrArg GStep.bare hst) (Below.refl _ _)
  · rename_i f params assign body k htodo
    rw [htodo] at Ft
    generalize htd : fr'.todo = td at Ft
    cases Ft with
    | @cons _ _ _ k' h1 h2 =>
      cases h1
      have hq := frame_atR hm' htd
      obtain ⟨⟨h1, l, mark⟩, hel, hx⟩ := opt_bind_some hx
      obtain ⟨e', l', mark', w', hle, hrun, hl, hmk, H', hb⟩ := enterLoop_sim (P := P) H F hel
      simp only [] at hx
      split at hx
      case h_2 => cases hx
      rename_i fn first captured hfv
      have hok : okOpd f = true := by
        cases hof : okOpd f with
        | true => rfl
        | false => rw [hof] at hfv; cases hfv
      rw [hok, cond_true] at hfv
      obtain ⟨n, hn, hx⟩ := opt_bind_some hx
      have F' := F.mono hle
      have F2 : FRel e' { s.fr with todo := .inRangeFunc l :: k, defers := mark ++ s.fr.defers } { fr' with todo := .inRangeFunc l' :: k', defers := mark' ++ fr'.defers } :=
        ⟨F'.fn, F'.small, F'.tmps, .cons (.inRangeFunc hl) (h2.mono hle), hmk.append F'.defers, F'.mode, F'.kind, F'.round⟩
      have hfr := F'.eval hok
      rw [hfv] at hfr
      have hev2 : ∀ x, ({ fr' with todo := .inRangeFunc l' :: k', defers := mark' ++ fr'.defers } : Frame).eval x = fr'.eval x := fun x => by cases x <;> rfl
      generalize hz : fr'.eval f = z at hfr
      cases hfr with
      | @func _ fn' _ first' _ cap' hfn ha hA hbb hB =>
        have hyv : VRel e' (.func (.yield l) #[] #[]) (.func (.yield l') #[] #[])   := VRel.func' (.yield hl) VsRel.nil VsRel.nil
        have hV : VsRel e' (first.toList ++ [Value.func (.yield l) #[] #[]]) (first' ++ #[Value.func (.yield l') #[] #[]]).toList := by
          rw [Array.toList_append]
          exact (vsRel_arr.2 ⟨ha, hA⟩ : VsRel e' first.toList first'.toList).append (VsRel.one hyv)
        have hO := sim_invoke G H' hfn (vsRel_arr.2 ⟨hbb, hB⟩) hV hn
        have := after_sim (P := P) (fr0 := fr') (w0 := w) (cs := cs) (s := (do let d ← resolve ({ fr' with todo := .inRangeFunc l' :: k', defers := mark' ++ fr'.defers } : Frame).eval { callee := .value f, args := #[.const (.func (.yield l') #[] #[])], argTypes := #[] } 0; invoke d.target d.args : Sem Next)) F2 (Fs.mono hle) (by
          have hrs : ({ fr' with todo := .inRangeFunc l' :: k', defers := mark' ++ fr'.defers } : Frame).eval (.const (.func (.yield l') #[] #[])) = .func (.yield l') #[] #[] := rfl
          simp only [resolve, Sem.run_bind, hev2, hz, Deferred.ofValue, Sem.run_pure, Result.andThen_ok]
          have harr : Array.map fr'.eval #[Operand.const (Value.func (Fn.yield l') #[] #[])] = #[Value.func (Fn.yield l') #[] #[]] := by simp [Frame.eval]
          have heq : ({ fr' with todo := .inRangeFunc l' :: k', defers := mark' ++ fr'.defers } : Frame).eval = fr'.eval := funext hev2
          rw [heq, harr]
          exact hO) hx (by
          have hmr : fr'.mode = .run := hm'
          simp [stepG, stepG.exec, hmr, htd, Sem.runT_eq, hrun]) hb
        obtain ⟨e3, fr3, frs3, w3, g1, g2, g3, g4, g5, g6⟩ := this
        exact ⟨e3, fr3, frs3, w3, Env.le_trans hle g1, g2, g3, g4, g5, g6⟩
  · rename_i k htodo
    rw [htodo] at Ft
    generalize htd : fr'.todo = td at Ft
    cases Ft with
    | @cons _ _ _ k' h1 h2 =>
      cases h1
      have hq := frame_atR hm' htd
      split at hx
      case h_2 => cases hx
      rename_i l hro
      obtain ⟨l', hro', hl⟩ := round_some F hro
      split at hx
      case h_2 => cases hx
      rename_i pend fn tmps n params assign body dfs hg
      obtain ⟨hlow, hg⟩ := cond_some hg
      simp only [nble, decide_eq_true_eq] at hlow
      cases hx
      obtain ⟨r, hh, hgl, q1, q2, q3, hn, hT, q5, q6, q7, q8⟩ := H.getLoop (P := P) hl hg
      have hB := (H.low hl).2 hlow
      have hset : ∀ o2, (setObj l' o2).run P w = .ok () { w with heap := w.heap.setIfInBounds l' o2 } := fun o2 => run_setObj_any hh (fun _ _ _ h => by cases h)
      have hbr : (Instr.beginRound l').run P w = .ok () { w with heap := w.heap.setIfInBounds l' (.loop { r with state := .busy }) } := by
        simp [Instr.beginRound, hgl, hset, q1]
      have := stepR_beginRound (P := P) (b := fr') (a := ⟨fr'.tmps, fr'.defers⟩) (k := k') (cs := frs ++ cs) (w := w) hro' hbr
      rw [← hq] at this
      refine ⟨e, _, frs, _, Env.le_refl e, .one this, ⟨F.fn, F.small, F.tmps, h2, F.defers, ?_, F.kind, F.round⟩, Fs, H.setObj (o2' := .loop { r with state := .busy }) hl hg rfl rfl ⟨rfl, q2, q3, hn, hT, q5, q6, q7, q8⟩, below_set hB _⟩
      show ModeRel e s.fr.mode .run
      rw [hm]; exact .run
  · rename_i l k htodo
    rw [htodo] at Ft
    generalize htd : fr'.todo = td at Ft
    cases Ft with
    | @cons _ _ _ k' h1 h2 =>
      cases h1 with
      | @endRangeFunc _ l' hl =>
        have hq := frame_atR hm' htd
        split at hx
        case h_2 => cases hx
        rename_i st pend fn tmps n params assign body dfs hg
        obtain ⟨hlow, hg⟩ := cond_some hg
        simp only [nble, decide_eq_true_eq] at hlow
        obtain ⟨r, hh, hgl, q1, q2, q3, hn, hT, q5, q6, q7, q8⟩ := H.getLoop (P := P) hl hg
        have hB := (H.low hl).2 hlow
        have hset : ∀ o2, (setObj l' o2).run P w = .ok () { w with heap := w.heap.setIfInBounds l' o2 } := fun o2 => run_setObj_any hh (fun _ _ _ h => by cases h)
        have hgo : st ≠ .busy → some ({ s with fr := { s.fr with todo := (match (generalizing := false) pend with | some c => [.code c] | none => []) ++ k }, h := s.h.putObj l (.loop .exhausted pend fn tmps n params assign body dfs) } : AS) = some s1 → Goes P B0 e cs fr' frs w s1 := by
          intro hnb hx
          cases hx
          have hbr : (Instr.endLoop l').run P w = .ok pend { w with heap := w.heap.setIfInBounds l' (.loop { r with state := .exhausted }) } := by
            have hb2 : r.state ≠ .busy := by rw [q1]; exact hnb
            simp [Instr.endLoop, hgl, hset, hb2, q2]
          have hmr : fr'.mode = .run := hm'
          have this : step P (lone fr' (frs ++ cs) w) = .next (lone { fr' with todo := (pend.map Item.code).toList ++ k' } (frs ++ cs) { w with heap := w.heap.setIfInBounds l' (.loop { r with state := .exhausted }) }) :=
            step_lone_go (by simp [stepG, stepG.exec, hmr, htd, Sem.runT_eq, hbr])
          refine ⟨e, _, frs, _, Env.le_refl e, .one this, ⟨F.fn, F.small, F.tmps, ?_, F.defers, F.mode, F.kind, F.round⟩, Fs, H.setObj (o2' := .loop { r with state := .exhausted }) hl hg rfl rfl ⟨rfl, q2, q3, hn, hT, q5, q6, q7, q8⟩, below_set hB _⟩
          cases pend with
          | none => exact h2
          | some c => exact .cons (.code c) h2
        cases st with
        | busy => cases hx
        | ready => exact hgo (by simp) hx
        | done => exact hgo (by simp) hx
        | exhausted => exact hgo (by simp) hx
  · cases hx
end
end Go.AM

namespace Go.AM
open Go Go.RowKit

section
variable {P : Program} {X : FuncId → List Value → Option Value} {e : Env} {B0 : Nat} {h : AH} {w : World}

def resultF (tmps : Array Value) : ResultVar → Sem Value
  | .tmp t => pure (tmps.getD t undef)
  | .cell a t => do loadVar t (← asAddr (tmps.getD a undef))

theorem results_eq (fn : Func) (tmps : Array Value) : results fn tmps = (do
    let vs ← fn.results.mapM (resultF tmps)
    pure (if h : vs.size = 1 then vs[0] else .tuple vs)) := by
  unfold results
  congr 1
  try (congr 1; funext r; cases r <;> rfl)

theorem resultsList_sim (H : HRel e B0 h w) {fr : AFrame} {fr' : Frame} (F : FRel e fr fr') : ∀ (l : List ResultVar) (vs : List Value), resultsA P h fr l = some vs →
    ∃ vs', (l.mapM (resultF fr'.tmps)).run P w = .ok vs' w ∧ VsRel e vs vs'
  | [], vs, hx => by
    cases hx
    exact ⟨[], by simp, VsRel.nil⟩
  | .tmp t :: l, vs, hx => by
    obtain ⟨ws, hw, rfl⟩ := opt_map_some hx
    obtain ⟨ws', hr, hV⟩ := resultsList_sim H F l ws hw
    refine ⟨fr'.tmps.getD t undef :: ws', ?_, VsRel.cons (F.tmps.2 t) hV⟩
    simp [List.mapM_cons, resultF, hr]
  | .cell a t :: l, vs, hx => by
    have ht := F.tmps.2 a
    simp only [resultsA] at hx
    split at hx
    case h_2 => cases hx
    rename_i ad had
    rw [had] at ht
    obtain ⟨hu, hx⟩ := cond_some hx
    obtain ⟨v, hv, hx⟩ := opt_bind_some hx
    obtain ⟨ws, hw, rfl⟩ := opt_map_some hx
    obtain ⟨ws', hr, hV⟩ := resultsList_sim H F l ws hw
    obtain ⟨b, o, sp⟩ := ad
    obtain ⟨rfl, c, d, hq, hl⟩ := ht.ptr_inv
    have hload : ∃ v', (loadVar t ⟨c, d + o, none⟩).run P w = .ok v' w ∧ VRel e v v' := by
      cases hag : Go.AM.isAgg P t with
      | true =>
        rw [hag, cond_true] at hv
        obtain ⟨n, hn, hv⟩ := opt_bind_some hv
        obtain ⟨cs, hcs, rfl⟩ := opt_map_some hv
        exact run_loadVar_agg H hl hu hag hn hcs
      | false =>
        rw [hag, cond_false] at hv
        exact run_loadVar_one H hl hu hag hv
    obtain ⟨v', hlr, hvv⟩ := hload
    refine ⟨v' :: ws', ?_, VsRel.cons hvv hV⟩
    simp [List.mapM_cons, resultF, hq, asAddr, hlr, hr]

theorem result_sim (H : HRel e B0 h w) {fr : AFrame} {fr' : Frame} {v : Value} (F : FRel e fr fr') (hx : resultA P h fr = some v) :
    ∃ fn v', P.funcs[fr'.fn]? = some fn ∧ (results fn fr'.tmps).run P w = .ok v' w ∧ VRel e v v' := by
  unfold resultA at hx
  split at hx
  case h_2 => cases hx
  rename_i fn hfn
  obtain ⟨vs, hvs, rfl⟩ := opt_map_some hx
  obtain ⟨vs', hr, hV⟩ := resultsList_sim H F _ _ hvs
  refine ⟨fn, (if h : vs'.toArray.size = 1 then vs'.toArray[0] else .tuple vs'.toArray), by rw [F.fn]; exact hfn, ?_, ?_⟩
  · rw [results_eq]
    have hto : fn.results = fn.results.toList.toArray := by simp
    rw [hto, List.mapM_toArray]
    simp only [Sem.run_bind, map_eq_pure_bind, hr, Result.andThen_ok, Sem.run_pure]
  · cases vs with
    | nil => rw [hV.nil_left]; exact .tuple' VsRel.nil
    | cons a l =>
      obtain ⟨a', l', rfl, ha, hl⟩ := hV.cons_left
      cases l with
      | nil => rw [hl.nil_left]; exact ha
      | cons b l =>
        obtain ⟨b', l2, rfl, hb, hl2⟩ := hl.cons_left
        simp only [List.size_toArray, List.length_cons]
        rw [dif_neg (by omega)]
        exact .tuple' (VsRel.cons ha (VsRel.cons hb hl2))

theorem notCatches {l : List AItem} {fr' : Frame} (hI : IsRel e l fr'.todo) : fr'.catches P = false := by
  unfold Frame.catches
  split
  · rename_i htd
    exact (todo_plain hI _ _ _ _ _ htd).elim
  · rfl

theorem dropWhile_all {l : List PanicEntry} (h : (l.all fun p => !p.goexit) = true) : l.dropWhile (!·.goexit) = [] := by
  induction l with
  | nil => rfl
  | cons a l ih =>
    simp only [List.all_cons, Bool.and_eq_true] at h
    rw [List.dropWhile_cons, h.1]
    exact ih h.2

theorem PsRel.all {a b : List PanicEntry} (r : PsRel e a b) : (b.all fun p => !p.goexit) = a.all fun p => !p.goexit := by
  induction r with
  | nil => rfl
  | cons _ _ ih => simp only [List.all_cons, ih]

/-- a step of a frame that leaves. -/
theorem unwind_sim (G : Good P X) {sub : AH → FuncId → List Value → Option (Value × AH)} {s s1 : AS} {fr' : Frame} {frs cs : List Frame} (F : FRel e s.fr fr') (Fs : FsRel e s.callers frs) (H : HRel e B0 s.h w) (hm : s.fr.mode ≠ .run)
    (hx : stepA P X sub s = some s1) : Goes P B0 e cs fr' frs w s1 := by
  unfold stepA at hx
  have hm' : fr'.mode ≠ .run := by
    intro hq
    have := F.mode
    rw [hq] at this
    generalize hz : s.fr.mode = z at this
    cases this
    exact hm hz
  have Fd := F.defers
  split at hx
  · rename_i hr; exact absurd hr hm
  · split at hx
    · rename_i b args ds hds
      split at hx
      case h_2 => cases hx
      rename_i calls hg
      obtain ⟨hlow, hg⟩ := cond_some hg
      simp only [nble, decide_eq_true_eq] at hlow
      cases hx
      rw [hds] at Fd
      obtain ⟨d', l, hd', hD, hL⟩ := Fd.cons_left
      obtain ⟨tg', args'⟩ := d'
      obtain ⟨hT, hA⟩ := hD
      cases hT with
      | @collected _ b' hl =>
        obtain ⟨_, ⟨o', hh, hO⟩, _⟩ := H.obj hl hg rfl
        cases o' <;> try exact hO.elim
        rename_i calls'
        cases calls' with
        | none => exact hO.elim
        | some calls' =>
          have hO : DsRel e calls calls' := hO
          have hB := (H.low hl).2 hlow
          have hrun : (Instr.takeDeferred b').run P w = .ok calls' { w with heap := w.heap.setIfInBounds b' (.deferred none) } := by
            simp [Instr.takeDeferred, run_getObj_any hh (fun _ _ _ h => by cases h), run_setObj_any hh (fun _ _ _ h => by cases h)]
          refine ⟨e, { fr' with defers := calls' ++ l }, frs, _, Env.le_refl e, .one (step_lone_go ?_), ⟨F.fn, F.small, F.tmps, F.todo, hO.append hL, F.mode, F.kind, F.round⟩, Fs, H.setObj (o2' := .deferred none) hl hg rfl rfl trivial, below_set hB _⟩
          cases hfm : fr'.mode with
          | run => exact absurd hfm hm'
          | returning => simp [stepG, unwind, hfm, hd', Sem.runT_eq, hrun]
          | panicking ch => simp [stepG, unwind, hfm, hd', Sem.runT_eq, hrun]
    · rename_i fn captured args ds hds
      obtain ⟨n, hn, hx⟩ := opt_bind_some hx
      cases n <;> try (cases hx; done)
      rename_i f fargs h1
      obtain ⟨g, hg, rfl⟩ := opt_map_some hx
      rw [hds] at Fd
      obtain ⟨d', l, hd', hD, hL⟩ := Fd.cons_left
      obtain ⟨tg', args'⟩ := d'
      obtain ⟨hT, hA⟩ := hD
      cases hT with
      | @fn _ fn' _ cap' hfn hcap =>
        have hO := sim_invoke G H hfn hcap hA hn
        obtain ⟨e', hle, fargs', w', hr, hv, H', hb⟩ := hO
        have F2 : FRel e' { s.fr with defers := ds } { fr' with defers := l } := ⟨F.fn, F.small, F.tmps.mono hle, F.todo.mono hle, hL.mono hle, F.mode.mono hle, F.kind, F.round.mono hle⟩
        refine ⟨e', Frame.enter P f fargs' .deferred, { fr' with defers := l } :: frs, w', hle, .one (step_lone_go ?_), (enter_sim hv hg).1, .cons F2 (Fs.mono hle), H', hb⟩
        cases hfm : fr'.mode with
        | run => exact absurd hfm hm'
        | returning => simp [stepG, unwind, callDeferred, hfm, hd', Sem.runT_eq, hr]
        | panicking ch => simp [stepG, unwind, callDeferred, hfm, hd', Sem.runT_eq, hr]
    · cases hx
    · rename_i hds
      rw [hds] at Fd
      have hd' := Fd.nil_left
      split at hx
      · rename_i chain c rest hmode hcs
        cases hx
        rw [hcs] at Fs
        have hmm := F.mode
        rw [hmode] at hmm
        generalize hfm : fr'.mode = z at hmm
        cases hmm with
        | @panicking _ chain' hch =>
          cases Fs with
          | @cons _ c' _ rest' hc hrest =>
            refine ⟨e, c'.raise chain', rest', w, Env.le_refl e, .one (step_lone_go ?_), (raise_sim hc hch).1, hrest, H, Below.refl _ _⟩
            simp [stepG, unwind, hfm, hd', notCatches F.todo]
      · rename_i c rest hmode hcs
        obtain ⟨v, hv, hx⟩ := opt_bind_some hx
        rw [hcs] at Fs
        have hmm := F.mode
        rw [hmode] at hmm
        generalize hfm : fr'.mode = z at hmm
        cases hmm
        obtain ⟨fn, v', hfn, hres, hV⟩ := result_sim (P := P) H F hv
        cases Fs with
        | @cons _ c' _ rest' hc hrest =>
          have hk := F.kind
          split at hx
          · rename_i hkind
            obtain ⟨c1, hf, rfl⟩ := opt_map_some hx
            refine ⟨e, c'.finish v', rest', w, Env.le_refl e, .one (step_lone_go ?_), (finish_sim hc hV hf).1, hrest, H, Below.refl _ _⟩
            rw [hkind] at hk
            simp [stepG, unwind, hfm, hd', hfn, Sem.runT_eq, hres, doReturn, hk]
          · rename_i hkind
            rw [hkind] at hk
            have hcm := hc.mode
            split at hx
            · rename_i p older hpm
              obtain ⟨hall, hx⟩ := cond_some hx
              cases hx
              rw [hpm] at hcm
              generalize hfm2 : c'.mode = z2 at hcm
              cases hcm with
              | panicking hp =>
                cases hp with
                | @cons _ p' _ _ _ m hpv hpl =>
                  refine ⟨e, { c' with mode := .returning }, rest', w, Env.le_refl e, .one (step_lone_go ?_), ⟨hc.fn, hc.small, hc.tmps, hc.todo, hc.defers, .returning, hc.kind, hc.round⟩, hrest, H, Below.refl _ _⟩
                  have hdw := dropWhile_all (by rw [hpl.all]; exact hall : (m.all fun p => !p.goexit) = true)
                  simp [stepG, unwind, hfm, hd', hfn, Sem.runT_eq, hres, doReturn, hk, hfm2, hdw]
            · rename_i hno
              cases hx
              refine ⟨e, c', rest', w, Env.le_refl e, .one (step_lone_go ?_), hc, hrest, H, Below.refl _ _⟩
              generalize hfm2 : c'.mode = z2 at hcm
              generalize hfm3 : c.mode = z3 at hcm
              cases hcm with
              | run => simp [stepG, unwind, hfm, hd', hfn, Sem.runT_eq, hres, doReturn, hk, hfm2]
              | returning => simp [stepG, unwind, hfm, hd', hfn, Sem.runT_eq, hres, doReturn, hk, hfm2]
              | panicking hp =>
                cases hp with
                | nil => simp [stepG, unwind, hfm, hd', hfn, Sem.runT_eq, hres, doReturn, hk, hfm2]
                | @cons _ p' r g _ m hpv hpl =>
                  cases r with
                  | false => simp [stepG, unwind, hfm, hd', hfn, Sem.runT_eq, hres, doReturn, hk, hfm2]
                  | true => exact (hno _ _ _ hfm3).elim
          · cases hx
      · cases hx
end
end Go.AM
