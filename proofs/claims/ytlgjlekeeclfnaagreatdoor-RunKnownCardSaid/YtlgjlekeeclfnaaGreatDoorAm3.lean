/-
  The abstract machine, part 3 of 4: a small evaluator of the model's programs over a memory of its own, and that what it comes to the program comes to, for every tape.
-/
import Derived.Test.YtlgjlekeeclfnaaGreatDoorAm2
import Derived.Orders
namespace Go.AM
open Go Go.RowKit

mutual
theorem veq_eq : ∀ (u v : Value), veq u v = true → u = v
  | .bool a, v, h => by cases v <;> simp [veq] at h; rw [h]
  | .int j a, v, h => by cases v <;> simp [veq] at h; rw [h.1, h.2]
  | .string a, v, h => by
    cases v <;> try (simp [veq] at h; done)
    have := bytesEq_true (by simpa [veq] using h)
    congr 1
    exact ByteArray.ext (Array.ext' this)
  | .pointer a, v, h => by cases v <;> simp [veq] at h; rw [h]
  | .slice a m n, v, h => by
    cases v <;> try (simp [veq] at h; done)
    simp only [veq, Bool.and_eq_true, decide_eq_true_eq, nbeq] at h
    rw [h.1.1, h.1.2, h.2]
  | .map a, v, h => by cases v <;> simp [veq] at h; rw [h]
  | .func f ⟨a⟩ ⟨b⟩, v, h => by
    cases v <;> try (simp [veq] at h; done)
    rename_i g c d
    obtain ⟨c⟩ := c
    obtain ⟨d⟩ := d
    simp only [veq, Bool.and_eq_true, decide_eq_true_eq] at h
    rw [h.1.1, veqs_eq a c h.1.2, veqs_eq b d h.2]
  | .nilFunc, v, h => by cases v <;> simp [veq] at h; rfl
  | .iface t a, v, h => by
    cases v <;> try (simp [veq] at h; done)
    rename_i u b
    simp only [veq, Bool.and_eq_true, decide_eq_true_eq, nbeq] at h
    rw [h.1, veq_eq a b h.2]
  | .nilIface, v, h => by cases v <;> simp [veq] at h; rfl
  | .agg ⟨a⟩, v, h => by
    cases v <;> try (simp [veq] at h; done)
    rename_i b
    obtain ⟨b⟩ := b
    simp only [veq] at h
    rw [veqs_eq a b h]
  | .tuple ⟨a⟩, v, h => by
    cases v <;> try (simp [veq] at h; done)
    rename_i b
    obtain ⟨b⟩ := b
    simp only [veq] at h
    rw [veqs_eq a b h]
  | .float .., v, h => by cases v <;> simp [veq] at h
  | .complex .., v, h => by cases v <;> simp [veq] at h
  | .chan .., v, h => by cases v <;> simp [veq] at h
theorem veqs_eq : ∀ (u v : List Value), veqs u v = true → u = v
  | [], [], _ => rfl
  | [], _ :: _, h => by simp [veqs] at h
  | _ :: _, [], h => by simp [veqs] at h
  | a :: x, b :: y, h => by
    simp only [veqs, Bool.and_eq_true] at h
    rw [veq_eq a b h.1, veqs_eq x y h.2]
end

/-! ## rows -/
theorem mkRows_get : ∀ (ops : List Oper) (ns : List (Nat × Nat × Nat)) (i k : Nat), (mkRows ops ns i)[k]? = none ∧ ops[k]? = none ∨ ∃ r o, (mkRows ops ns i)[k]? = some r ∧ ops[k]? = some o ∧ r.o = o ∧ r.i = i + k
  | [], ns, i, k => .inl ⟨by cases ns <;> simp [mkRows], by simp⟩
  | o :: os, [], i, 0 => .inr ⟨_, o, by simp [mkRows]; rfl, rfl, rfl, rfl⟩
  | o :: os, (a, b, c) :: ns, i, 0 => .inr ⟨_, o, by simp [mkRows]; rfl, rfl, rfl, rfl⟩
  | o :: os, [], i, k + 1 => by
    rcases mkRows_get os [] (i + 1) k with ⟨h1, h2⟩ | ⟨r, o', h1, h2, h3, h4⟩
    · exact .inl ⟨by simpa [mkRows] using h1, by simpa using h2⟩
    · exact .inr ⟨r, o', by simpa [mkRows] using h1, by simpa using h2, h3, by omega⟩
  | o :: os, (a, b, c) :: ns, i, k + 1 => by
    rcases mkRows_get os ns (i + 1) k with ⟨h1, h2⟩ | ⟨r, o', h1, h2, h3, h4⟩
    · exact .inl ⟨by simpa [mkRows] using h1, by simpa using h2⟩
    · exact .inr ⟨r, o', by simpa [mkRows] using h1, by simpa using h2, h3, by omega⟩

section
variable {P : Program} {ops : Array Oper}

theorem rows_of_op {i : Nat} {o : Oper} (ho : ops[i]? = some o) : ∃ r, (rowsOf P ops)[i]? = some r ∧ r.o = o ∧ r.i = i := by
  rcases mkRows_get ops.toList (numbers P ops.toList) 0 i with ⟨_, h2⟩ | ⟨r, o', h1, h2, h3, h4⟩
  · rw [Array.getElem?_toList, ho] at h2; cases h2
  · rw [Array.getElem?_toList, ho] at h2; cases h2
    exact ⟨r, h1, h3, by omega⟩

theorem op_of_row {i : Nat} {r : Row} (hr : (rowsOf P ops)[i]? = some r) : ops[i]? = some r.o ∧ r.i = i := by
  unfold rowsOf at hr
  rcases mkRows_get ops.toList (numbers P ops.toList) 0 i with ⟨h1, _⟩ | ⟨r', o', h1, h2, h3, h4⟩
  · rw [h1] at hr; cases hr
  · rw [h1] at hr; cases hr
    rw [Array.getElem?_toList] at h2
    exact ⟨by rw [h2, h3], by omega⟩

theorem row_mem {r : Row} (hr : r ∈ rowsOf P ops) : (rowsOf P ops)[r.i]? = some r ∧ ops[r.i]? = some r.o := by
  obtain ⟨i, hi⟩ := List.mem_iff_getElem?.1 hr
  obtain ⟨h1, h2⟩ := op_of_row hi
  subst h2
  exact ⟨hi, h1⟩

theorem row_unique {r q : Row} (hr : r ∈ rowsOf P ops) (hq : q ∈ rowsOf P ops) (h : r.i = q.i) : r = q := by
  have h1 := (row_mem hr).1
  have h2 := (row_mem hq).1
  rw [h] at h1
  rw [h1] at h2
  exact Option.some.inj h2

/-- what okRow says. -/
structure ROK (P : Program) (rs : List Row) (K : Nat) (r : Row) : Prop where
  pre : ∀ p ∈ preds r.o, p < r.i
  early : r.e0 = 0 ∨ ∃ p q, p ∈ preds r.o ∧ rs[p]? = some q ∧ r.e0 ≤ cond (isEff P q.o) (q.no + 1) q.e0
  late : K ≤ r.l ∨ ∃ q ∈ rs, r.i ∈ preds q.o ∧ cond (isEff P q.o) q.no q.l ≤ r.l
  eff : isEff P r.o = true → r.no ≤ r.e0
  dst : ∀ d, r.o.dst = some d → ∀ q ∈ rs, q.i ≠ r.i → q.o.dst ≠ some d
  tmps : ∀ t ∈ tmpsIn r.o, ∀ w, writer rs t = some w → w = r.i ∨ w ∈ preds r.o ∨ ∃ q, rs[w]? = some q ∧ r.i ∈ preds q.o
  guard : ∀ g b, r.o.guard = some (g, b) → g ∈ preds r.o ∧ ∃ q d, rs[g]? = some q ∧ q.o.dst = some d

theorem any_beq {l : List Nat} {x : Nat} (h : (l.any fun y => Nat.beq y x) = true) : x ∈ l := by
  obtain ⟨y, hy, hh⟩ := List.any_eq_true.1 h
  simp only [nbeq, decide_eq_true_eq] at hh
  exact hh ▸ hy

theorem any_beq' {l : List Nat} {x : Nat} (h : l.any (Nat.beq x) = true) : x ∈ l := by
  obtain ⟨y, hy, hh⟩ := List.any_eq_true.1 h
  simp only [nbeq, decide_eq_true_eq] at hh
  exact hh ▸ hy

theorem okRow_spec {rs : List Row} {K : Nat} {r : Row} (h : okRow P rs K r = true) : ROK P rs K r := by
  simp only [okRow, Bool.and_eq_true] at h
  obtain ⟨⟨⟨⟨⟨⟨h1, h2⟩, h3⟩, h4⟩, h5⟩, h6⟩, h7⟩ := h
  refine ⟨fun p hp => ?_, ?_, ?_, fun he => ?_, fun d hd q hq hne hqd => ?_, fun t ht w hw => ?_, fun g b hg => ?_⟩
  · simpa [nblt] using List.all_eq_true.1 h1 p hp
  · rcases Bool.or_eq_true _ _ ▸ h2 with h2 | h2
    · simp only [nbeq, decide_eq_true_eq] at h2; exact .inl h2
    · obtain ⟨p, hp, hh⟩ := List.any_eq_true.1 h2
      split at hh
      · rename_i q hq
        simp only [nble, decide_eq_true_eq] at hh
        exact .inr ⟨p, q, hp, hq, hh⟩
      · cases hh
  · rcases Bool.or_eq_true _ _ ▸ h3 with h3 | h3
    · simp only [nble, decide_eq_true_eq] at h3; exact .inl h3
    · obtain ⟨q, hq, hh⟩ := List.any_eq_true.1 h3
      simp only [Bool.and_eq_true, nble, decide_eq_true_eq] at hh
      exact .inr ⟨q, hq, any_beq hh.1, hh.2⟩
  · rcases Bool.or_eq_true _ _ ▸ h4 with h4 | h4
    · rw [he] at h4; cases h4
    · simpa [nble] using h4
  · rw [hd] at h5
    have := List.all_eq_true.1 h5 q hq
    rw [hqd] at this
    simp [nbeq, hne] at this
  · have := List.all_eq_true.1 h6 t ht
    rw [hw] at this
    simp only [Bool.or_eq_true, nbeq, decide_eq_true_eq] at this
    rcases this with (this | this) | this
    · exact .inl this
    · obtain ⟨y, hy, hh⟩ := List.any_eq_true.1 this
      simp only [decide_eq_true_eq] at hh
      exact .inr (.inl (hh ▸ hy))
    · split at this
      · rename_i q hq
        obtain ⟨y, hy, hh⟩ := List.any_eq_true.1 this
        simp only [decide_eq_true_eq] at hh
        exact .inr (.inr ⟨q, hq, hh ▸ hy⟩)
      · cases this
  · rw [hg] at h7
    simp only [Bool.and_eq_true] at h7
    refine ⟨any_beq h7.1, ?_⟩
    have := h7.2
    split at this
    · rename_i q hq
      obtain ⟨d, hd⟩ := Option.isSome_iff_exists.1 this
      exact ⟨q, d, hq, hd⟩
    · cases this

theorem writer_spec {rs : List Row} {t : Tmp} {w : Nat} (h : writer rs t = some w) : ∃ r ∈ rs, r.i = w ∧ r.o.dst = some t := by
  unfold writer at h
  split at h
  · rename_i r hr
    cases h
    have h1 := List.mem_of_find?_eq_some hr
    have h2 := List.find?_some hr
    refine ⟨r, h1, rfl, ?_⟩
    split at h2
    · rename_i d hd
      simp only [nbeq, decide_eq_true_eq] at h2
      rw [hd, h2]
    · cases h2
  · cases h

theorem writer_none {rs : List Row} {t : Tmp} (h : writer rs t = none) : ∀ r ∈ rs, r.o.dst ≠ some t := by
  unfold writer at h
  split at h
  · cases h
  · rename_i hn
    intro r hr hd
    have := List.find?_eq_none.1 hn r hr
    rw [hd] at this
    simp at this
end

/-! ## blocks that are made ahead of their time -/
def blockOf : Value → Option Nat
  | .pointer (some a) => some a.block
  | .slice (some a) _ _ => some a.block
  | .map (some b) => some b
  | _ => none

section
variable {P : Program} {X : FuncId → List Value → Option Value} {e : Env} {B0 : Nat} {h : AH} {w : World} {ρ ρ' : Operand → Value}

theorem sub_nx (e : Env) (k : Nat) : e.sub { e with nx := k } := ⟨fun _ _ _ h => h, fun _ _ _ _ => rfl, fun _ _ _ _ => rfl, fun _ _ _ _ => rfl, fun _ _ _ _ => rfl, fun _ _ _ _ => rfl⟩

/-- a block that is made on the abstract side alone. -/
theorem HRel.addNew (H : HRel e B0 h w) (hn : h.next < 1000000000) (o : AObj) : HRel { e with nx := h.next + 1 } B0 { tree := PT.set 64 h.tree h.next o, fams := h.fams, next := h.next + 1 } w := by
  have hs := sub_nx e (h.next + 1)
  have hfar : h.next < Go.AM.far := by unfold Go.AM.far; omega
  have hget : ∀ b, (PT.set 64 h.tree h.next o).get b = if b = h.next then some o else h.tree.get b := fun b => PT.get_set _ _ _ _ hfar
  have hne : ∀ {b : Nat} {x : Nat × Nat}, e.loc b = some x → b ≠ h.next := fun hl hb => by rw [hb, H.new (Nat.le_refl _)] at hl; cases hl
  refine ⟨?_, ?_, H.sep, H.one, H.old, ?_, ?_, ?_, H.low, ?_, rfl⟩
  · intro b c d cs size es fam delta hl hg
    have hl : e.loc b = some (c, d) := hl
    simp only [] at hg
    rw [hget, if_neg (hne hl)] at hg
    have R := H.row hl hg
    obtain ⟨arr, t, fz, h1, h2, h3, h4⟩ := R.cells
    exact ⟨R.fam, R.delta, R.len, R.es, R.length, R.fits, arr, t, fz, h1, h2, h3, fun hr i v hv => by
      obtain ⟨v', g1, g2⟩ := h4 hr i v hv
      exact ⟨v', g1, g2.monoS hs⟩⟩
  · intro b c d o2 hl hg ho
    have hl : e.loc b = some (c, d) := hl
    simp only [] at hg
    rw [hget, if_neg (hne hl)] at hg
    obtain ⟨h1, ⟨o', h2, h3⟩, h4⟩ := H.obj hl hg ho
    exact ⟨h1, ⟨o', h2, h3.monoS hs⟩, h4⟩
  · intro b hb
    have hb : h.next + 1 ≤ b := hb
    exact H.new (by omega)
  · intro b x hl
    have := H.famlt (show e.loc b = some x from hl)
    show e.fam b < h.next + 1
    omega
  · intro f hf
    have hf : h.next + 1 ≤ f := hf
    exact H.famnew (by omega)
  · have := H.base
    show 1000 ≤ h.next + 1 ∧ h.next + 1 ≤ 1000000000 ∧ B0 ≤ w.heap.size
    omega

def Env.map (e : Env) (b c len es sz : Nat) : Env := { e.ext b c 0 b 0 len es sz with nx := e.nx }

theorem Env.map_sub {e : Env} {b c len es sz : Nat} (hb : e.loc b = none) (hc : ∀ b' d', e.loc b' = some (c, d') → sz = e.sz c) : e.sub (e.map b c len es sz) := by
  have hne : ∀ x y z, e.loc x = some (y, z) → x ≠ b := fun x y z hx hxb => by rw [hxb, hb] at hx; cases hx
  refine ⟨fun x y z hx => ?_, fun x y z hx => ?_, fun x y z hx => ?_, fun x y z hx => ?_, fun x y z hx => ?_, fun x y z hx => ?_⟩ <;> simp only [Env.map, Env.ext]
  · rw [if_neg (hne _ _ _ hx)]; exact hx
  · by_cases h : y = c
    · subst h; rw [if_pos rfl, hc _ _ hx]
    · rw [if_neg h]
  all_goals rw [if_neg (hne _ _ _ hx)]

/-- such a block is made on the other side too, later. -/
theorem HRel.mapNew (H : HRel e B0 h w) {b len es sz : Nat} {o : AObj} {o' : Obj} (hb : e.loc b = none) (hbn : b < h.next) (hbf : ∀ b' x, e.loc b' = some x → e.fam b' ≠ b) (hfn : h.fams.get b = none) (hg : h.tree.get b = some o)
    (hrow : ∀ cs size es' fam' delta', o = .row cs size es' fam' delta' → fam' = b ∧ delta' = 0 ∧ size = len ∧ es' = es ∧ cs.length = size ∧ size ≤ sz ∧
      ∃ arr t fz, o' = .cells arr t fz ∧ arr.size = sz ∧ Thawed arr fz ∧ ∀ (i : Nat) (v : Value), cs[i]? = some v → ∃ v', arr[i]? = some v' ∧ VRel e v v')
    (hobj : o.isRow = false → ∀ e', e.sub e' → ObjRel e' o o') :
    HRel (e.map b w.heap.size len es sz) B0 h { w with heap := w.heap.push o' } := by
  have hle : e.sub (e.map b w.heap.size len es sz) := Env.map_sub hb (fun b' d' hb' => by have := (H.low hb').1; omega)
  generalize he' : e.map b w.heap.size len es sz = e' at hle
  have hloc : ∀ b2 x, e'.loc b2 = some x → (b2 = b ∧ x = (w.heap.size, 0)) ∨ (b2 ≠ b ∧ e.loc b2 = some x) := by
    intro b2 x hx
    rw [← he'] at hx
    simp only [Env.map, Env.ext] at hx
    by_cases h2 : b2 = b
    · rw [if_pos h2] at hx; exact .inl ⟨h2, (Option.some.inj hx).symm⟩
    · rw [if_neg h2] at hx; exact .inr ⟨h2, hx⟩
  have hfm : ∀ b2, b2 ≠ b → e'.fam b2 = e.fam b2 := fun b2 h2 => by rw [← he']; simp [Env.map, Env.ext, h2]
  have hdl : ∀ b2, b2 ≠ b → e'.delta b2 = e.delta b2 := fun b2 h2 => by rw [← he']; simp [Env.map, Env.ext, h2]
  have hln : ∀ b2, b2 ≠ b → e'.len b2 = e.len b2 := fun b2 h2 => by rw [← he']; simp [Env.map, Env.ext, h2]
  have hfm0 : e'.fam b = b := by rw [← he']; simp [Env.map, Env.ext]
  have hheap : ∀ c, c < w.heap.size → (w.heap.push o')[c]? = w.heap[c]? := fun c hc => by rw [Array.getElem?_push, if_neg (by omega)]
  have hheap0 : (w.heap.push o')[w.heap.size]? = some o' := by rw [Array.getElem?_push, if_pos rfl]
  refine ⟨?_, ?_, ?_, ?_, ?_, ?_, ?_, H.famnew, ?_, ?_, by rw [← he']; simp [Env.map, H.nx]⟩
  · intro b2 c d cs size es' fam' delta' hl hg2
    rcases hloc _ _ hl with ⟨h2, hx⟩ | ⟨h2, hl0⟩
    · subst h2
      rw [hg] at hg2
      cases hx
      obtain ⟨h1, h2, h3, h4, h5, h6, arr, t, fz, h7, h8, h9, h10⟩ := hrow _ _ _ _ _ (Option.some.inj hg2)
      refine ⟨by rw [hfm0, h1], by rw [← he']; simp [Env.map, Env.ext, h2], by rw [← he']; simp [Env.map, Env.ext, h3], by rw [← he']; simp [Env.map, Env.ext, h4], h5, ?_, arr, t, fz, ?_, ?_, h9, ?_⟩
      · rw [← he']; simp only [Env.map, Env.ext, if_true]; omega
      · rw [← h7]; exact hheap0
      · rw [← he']; simp only [Env.map, Env.ext, if_true]; exact h8
      · intro _ i v hv
        obtain ⟨v', hv', hV⟩ := h10 i v hv
        exact ⟨v', by simpa using hv', hV.monoS hle⟩
    · have R := H.row hl0 hg2
      obtain ⟨arr, t, fz, hh, hs, hth, hcell⟩ := R.cells
      refine ⟨by rw [hle.fam _ _ _ hl0]; exact R.fam, by rw [hle.delta _ _ _ hl0]; exact R.delta, by rw [hle.len _ _ _ hl0]; exact R.len, by rw [hle.es _ _ _ hl0]; exact R.es, R.length, by rw [hle.sz _ _ _ hl0]; exact R.fits,
        arr, t, fz, ?_, by rw [hle.sz _ _ _ hl0]; exact hs, hth, fun hr i v hv => ?_⟩
      · simp only []; rw [hheap _ (H.low hl0).1]; exact hh
      · obtain ⟨v', hv', hV⟩ := hcell hr i v hv
        exact ⟨v', hv', hV.monoS hle⟩
  · intro b2 c d o2 hl hg2 ho2
    rcases hloc _ _ hl with ⟨h2, hx⟩ | ⟨h2, hl0⟩
    · subst h2
      rw [hg] at hg2
      cases hx
      cases Option.some.inj hg2
      exact ⟨rfl, ⟨o', hheap0, hobj ho2 _ hle⟩, by rw [hfm0]; exact hfn⟩
    · obtain ⟨h1, ⟨o3, h3, h4⟩, h5⟩ := H.obj hl0 hg2 ho2
      exact ⟨h1, ⟨o3, by simp only []; rw [hheap _ (H.low hl0).1]; exact h3, h4.monoS hle⟩, by rw [hfm _ h2]; exact h5⟩
  · intro b1 b2 c d1 d2 h1 h2
    rcases hloc _ _ h1 with ⟨hb1, hx1⟩ | ⟨hb1, hl1⟩ <;> rcases hloc _ _ h2 with ⟨hb2, hx2⟩ | ⟨hb2, hl2⟩
    · cases hx1; cases hx2; subst hb1; subst hb2; exact ⟨rfl, rfl⟩
    · cases hx1; have := (H.low hl2).1; omega
    · cases hx2; have := (H.low hl1).1; omega
    · rw [hfm _ hb1, hfm _ hb2, hdl _ hb1, hdl _ hb2]; exact H.sep hl1 hl2
  · intro b1 b2 x1 x2 h1 h2 hf hnone
    rcases hloc _ _ h1 with ⟨hb1, hx1⟩ | ⟨hb1, hl1⟩ <;> rcases hloc _ _ h2 with ⟨hb2, hx2⟩ | ⟨hb2, hl2⟩
    · rw [hb1, hb2]
    · rw [hb1, hfm0, hfm _ hb2] at hf; exact absurd hf.symm (hbf _ _ hl2)
    · rw [hb2, hfm0, hfm _ hb1] at hf; exact absurd hf (hbf _ _ hl1)
    · rw [hfm _ hb1, hfm _ hb2] at hf; rw [hfm _ hb1] at hnone; exact H.one hl1 hl2 hf hnone
  · intro b2 x F hl hF hne
    rcases hloc _ _ hl with ⟨h2, hx⟩ | ⟨h2, hl0⟩
    · rw [h2, hfm0, hfn] at hF; cases hF
    · rw [hfm _ h2] at hF; rw [hdl _ h2, hln _ h2]; exact H.old hl0 hF hne
  · intro b2 h2
    rw [← he']; simp only [Env.map, Env.ext]; rw [if_neg (by omega)]; exact H.new h2
  · intro b2 x hl
    rcases hloc _ _ hl with ⟨h2, hx⟩ | ⟨h2, hl0⟩
    · rw [h2, hfm0]; exact hbn
    · rw [hfm _ h2]; exact H.famlt hl0
  · intro b2 c d hl
    simp only [Array.size_push]
    rcases hloc _ _ hl with ⟨h2, hx⟩ | ⟨h2, hl0⟩
    · cases hx; have := H.base.2.2; exact ⟨by omega, fun _ => by omega⟩
    · have := H.low hl0; exact ⟨by omega, this.2⟩
  · simp only [Array.size_push]
    have := H.base; omega
end
end Go.AM

namespace Go.AM
open Go Go.RowKit

section
variable {P : Program} {X : FuncId → List Value → Option Value} {e : Env} {B0 : Nat} {h : AH} {w : World} {ρ ρ' : Operand → Value}

theorem newRow_parts {cs : List Value} {size es b : Nat} {h1 : AH} (hn : h.newRow cs size es = some (h1, b)) :
    h.next < 1000000000 ∧ cs.length = size ∧ b = h.next ∧ h1 = { tree := PT.set 64 h.tree h.next (.row cs size es h.next 0), fams := h.fams, next := h.next + 1 } := by
  unfold AH.newRow at hn
  obtain ⟨hc, hn⟩ := cond_some hn
  simp only [Bool.and_eq_true, nblt, nbeq, decide_eq_true_eq] at hc
  cases hn
  exact ⟨hc.1.1, hc.1.2, rfl, rfl⟩

theorem cls_alloc {o : Oper} (hc : clsOf P o = .alloc) : (∃ t, o.op = .alloc t) ∨ (∃ t x, o.op = .box t x) ∨ (∃ t len parts, o.op = .buildSlice t len parts) ∨ (∃ t, o.op = .makeMap t none) := by
  unfold clsOf at hc
  cases ho : o.op with
  | alloc t => exact .inl ⟨t, rfl⟩
  | box t x => exact .inr (.inl ⟨t, x, rfl⟩)
  | buildSlice t len parts => exact .inr (.inr (.inl ⟨t, len, parts, rfl⟩))
  | makeMap t r =>
    cases r with
    | none => exact .inr (.inr (.inr ⟨t, rfl⟩))
    | some x => rw [ho] at hc; cases hc
  | call c =>
    rw [ho] at hc
    obtain ⟨callee, args, ats⟩ := c
    cases callee with
    | builtin b => cases b <;> cases hc
    | value f => cases hc
    | invoke r m => cases hc
  | convert s d x =>
    rw [ho] at hc
    simp only [] at hc
    split at hc <;> cases hc
  | _ => rw [ho] at hc; cases hc

/-- what an operation that makes a block makes, on both sides. -/
def Made (e : Env) (hx : AH) (w : World) (v : Value) (h1 : AH) (r : Result Next) : Prop :=
  hx.next < 1000000000 ∧ blockOf v = some hx.next ∧ ∃ ob o' v', h1 = { tree := PT.set 64 hx.tree hx.next ob, fams := hx.fams, next := hx.next + 1 } ∧ r = .ok (.value v') { w with heap := w.heap.push o' } ∧
    (∀ e2 : Env, e2.loc hx.next = some (w.heap.size, 0) → VRel e2 v v') ∧
    ((∃ ds es arr t, ob = .row ds ds.length es hx.next 0 ∧ o' = .cells arr t (0, 0) ∧ arr.size = ds.length ∧ VsRel e ds arr.toList) ∨ (ob = .map [] 0 ∧ o' = .map #[] 0))

theorem made_run {hx : AH} {v v' : Value} {h1 : AH} {s : Sem Value} {ob : AObj} {o' : Obj} (hr : s.run P w = .ok v' { w with heap := w.heap.push o' }) (h0 : hx.next < 1000000000) (hb : blockOf v = some hx.next)
    (hh : h1 = { tree := PT.set 64 hx.tree hx.next ob, fams := hx.fams, next := hx.next + 1 }) (hv : ∀ e2 : Env, e2.loc hx.next = some (w.heap.size, 0) → VRel e2 v v')
    (hk : (∃ ds es arr t, ob = .row ds ds.length es hx.next 0 ∧ o' = .cells arr t (0, 0) ∧ arr.size = ds.length ∧ VsRel e ds arr.toList) ∨ (ob = .map [] 0 ∧ o' = .map #[] 0)) :
    Made e hx w v h1 ((do pure (Next.value (← s)) : Sem Next).run P w) :=
  ⟨h0, hb, ob, o', v', hh, by simp [hr], hv, hk⟩

theorem alloc_exec {hx : AH} {o : Oper} {n : ANext} (hρ : ∀ x, x ∈ o.op.operands.toList → okOpd x = true → VRel e (ρ x) (ρ' x)) (hc : clsOf P o = .alloc) (hn : execA P X hx ρ o = some n) :
    ∃ v h1, n = .value v h1 ∧ Made e hx w v h1 ((execOp ρ' o).run P w) := by
  unfold execA at hn
  obtain ⟨hok, hn⟩ := cond_some hn
  have hr : ∀ x ∈ o.op.operands.toList, VRel e (ρ x) (ρ' x) := fun x hm => hρ x hm (List.all_eq_true.1 hok x hm)
  clear hok
  unfold opA at hn
  have hptr : ∀ (b c : Nat) (e2 : Env), e2.loc b = some (c, 0) → VRel e2 (.pointer (some ⟨b, 0, none⟩)) (.pointer (some ⟨c, 0, none⟩)) := by
    intro b c e2 hl
    have : VRel e2 (.pointer (some ⟨b, 0, none⟩)) (.pointer (some ⟨c, 0 + 0, none⟩)) := .ptr hl
    exact this
  rcases cls_alloc hc with ⟨t, ho⟩ | ⟨t, x, ho⟩ | ⟨t, len, parts, ho⟩ | ⟨t, ho⟩
  · rw [ho] at hn
    simp only [execOp, ho]
    obtain ⟨z, hz, hn⟩ := opt_bind_some hn
    obtain ⟨⟨h1, b⟩, hn1, rfl⟩ := opt_map_some hn
    obtain ⟨g1, g2, rfl, g4⟩ := newRow_parts hn1
    obtain ⟨zv, hzv, rfl⟩ := opt_map_some hz
    obtain ⟨hzr, hzf⟩ := zeroVal_run (w := w) hzv
    refine ⟨_, _, rfl, made_run (o' := .cells zv.cells t) (v' := .pointer (some ⟨w.heap.size, 0, none⟩)) ?_ g1 rfl g4 (hptr _ _) (.inl ⟨_, _, zv.cells, t, rfl, rfl, by simp, (flat_rel e zv hzf).cells⟩)⟩
    simp [Instr.alloc, hzr, newVar, newRow]
  · rw [ho] at hn hr
    simp only [execOp, ho]
    obtain ⟨⟨h1, b⟩, hn1, rfl⟩ := opt_map_some hn
    obtain ⟨g1, g2, rfl, g4⟩ := newRow_parts hn1
    have hV := hr x (by simp [Op.operands])
    refine ⟨_, _, rfl, made_run (o' := .cells (ρ' x).cells t) (v' := .pointer (some ⟨w.heap.size, 0, none⟩)) ?_ g1 rfl g4 (hptr _ _) (.inl ⟨_, _, (ρ' x).cells, t, rfl, rfl, ?_, hV.cells⟩)⟩
    · simp [Instr.box, newVar, newRow]
    · have := hV.cells.1; simp at this; simp [this]
  · rw [ho] at hn hr
    simp only [execOp, ho]
    have hp : ∀ x ∈ parts.toList.map (·.2), VRel e (ρ x) (ρ' x) := fun x hm => hr x (by simpa [Op.operands] using hm)
    simp only [] at hn
    split at hn
    case h_2 => cases hn
    rename_i el hu
    split at hn
    case h_2 => cases hn
    rename_i size z hs hz
    obtain ⟨hcc, hn⟩ := cond_some hn
    simp only [Bool.and_eq_true, nble, nbeq, decide_eq_true_eq] at hcc
    obtain ⟨hsmall, hzl⟩ := hcc
    obtain ⟨cs, hf, hn⟩ := opt_bind_some hn
    obtain ⟨⟨h1, b⟩, hn1, rfl⟩ := opt_map_some hn
    obtain ⟨g1, g2, rfl, g4⟩ := newRow_parts hn1
    obtain ⟨zv, hzv, rfl⟩ := opt_map_some hz
    obtain ⟨hzr, hzf⟩ := zeroVal_run (w := w) hzv
    have hzs : zv.cells.size = size := by simpa using hzl
    obtain ⟨hl, hrr⟩ := parts_rel hp
    obtain ⟨arr', f1, f2, f3⟩ := fill_sim _ _ _ _ _ _ hl hrr (zeros_rel (e := e) hzf (len := len) hzs) hf
    have hal : arr'.size = len * size := by have := f2.1; simp at this; omega
    have hrun : (Instr.buildSlice t len (parts.map fun (i, x) => (i, ρ' x))).run P w = .ok (.slice (some ⟨w.heap.size, 0, none⟩) len len) { w with heap := w.heap.push (.cells arr' el) } := by
      have hno : ¬ len * size > 2 ^ 24 := by omega
      by_cases h0 : len * size = 0
      · have f1' : Instr.fill (fun i => some (i * size, size)) #[] (parts.toList.map fun x => (x.1, ρ' x.2)) = some arr' := by
          rw [← f1]; simp [h0, Array.range_zero']
        simp [Instr.buildSlice, run_underlying hu, sizeOf_run hs, h0, f1', newRow, Array.range_zero']
      · have f1' : Instr.fill (fun i => some (i * size, size)) ((Array.range (len * size)).map (zv.cells[· % zv.cells.size]!)) (parts.toList.map fun x => (x.1, ρ' x.2)) = some arr' := by
          rw [← f1]; simp
        have hno' : ¬ 16777216 < len * size := by omega
        simp [Instr.buildSlice, run_underlying hu, sizeOf_run hs, h0, hzr, f1', newRow, hno']
    refine ⟨_, _, rfl, made_run hrun g1 rfl g4 (fun e2 hl => ?_) (.inl ⟨cs, size, arr', el, by rw [g2], rfl, by omega, f2⟩)⟩
    have : VRel e2 (.slice (some ⟨hx.next, 0, none⟩) len len) (.slice (some ⟨w.heap.size, 0 + 0, none⟩) len len) := .sl hl (Nat.le_refl _) (.inl rfl)
    exact this
  · rw [ho] at hn
    simp only [execOp, ho]
    obtain ⟨⟨h1, b⟩, hn1, rfl⟩ := opt_map_some hn
    unfold AH.newObj at hn1
    obtain ⟨hcc, hn2⟩ := cond_some hn1
    simp only [nblt, decide_eq_true_eq] at hcc
    cases hn2
    refine ⟨_, _, rfl, made_run (o' := .map #[] 0) (v' := .map (some w.heap.size)) ?_ hcc rfl rfl (fun e2 hl => .map hl) (.inr ⟨rfl, rfl⟩)⟩
    simp [Instr.makeMap]

/-- what reads, or reckons, leaves the blocks alone. -/
theorem quiet_exec {hx : AH} {o : Oper} {n : ANext} (hc : clsOf P o = .pure ∨ clsOf P o = .read) (hn : execA P X hx ρ o = some n) : (∃ v, n = .value v hx) ∨ (∀ v h, n ≠ .value v h) := by
  unfold execA at hn
  obtain ⟨_, hn⟩ := cond_some hn
  unfold opA at hn
  unfold clsOf at hc
  have hnv : ∀ {x : Option Value}, (x.map fun v => ANext.value v hx) = some n → ∃ v, n = .value v hx := fun h => by
    obtain ⟨v, _, rfl⟩ := opt_map_some h
    exact ⟨v, rfl⟩
  left
  cases ho : o.op with
  | move x => rw [ho] at hn; cases hn; exact ⟨_, rfl⟩
  | assign x => rw [ho] at hn; cases hn; exact ⟨_, rfl⟩
  | pick c a b =>
    rw [ho] at hn
    simp only [] at hn
    split at hn
    · cases hn; exact ⟨_, rfl⟩
    · cases hn
  | build t parts =>
    rw [ho] at hn
    simp only [] at hn
    split at hn
    · obtain ⟨_, hn⟩ := cond_some hn
      obtain ⟨cs, _, rfl⟩ := opt_map_some hn
      exact ⟨_, rfl⟩
    · obtain ⟨size, _, hn⟩ := opt_bind_some hn
      obtain ⟨cs, _, rfl⟩ := opt_map_some hn
      exact ⟨_, rfl⟩
    · cases hn
  | load t a =>
    rw [ho] at hn
    simp only [] at hn
    split at hn
    · obtain ⟨_, hn⟩ := cond_some hn
      cases hag : Go.AM.isAgg P t with
      | true =>
        rw [hag, cond_true] at hn
        obtain ⟨k, _, hn⟩ := opt_bind_some hn
        obtain ⟨cs, _, rfl⟩ := opt_map_some hn
        exact ⟨_, rfl⟩
      | false =>
        rw [hag, cond_false] at hn
        exact hnv hn
    · cases hn
  | nilCheck x =>
    rw [ho] at hn
    simp only [] at hn
    split at hn <;> first | (cases hn; exact ⟨_, rfl⟩) | cases hn
  | binOp op t x y ty => rw [ho] at hn; exact hnv hn
  | unOp op t x => rw [ho] at hn; exact hnv hn
  | makeInterface t x =>
    rw [ho] at hn
    simp only [] at hn
    split at hn
    · cases hn
    · cases hn; exact ⟨_, rfl⟩
    · cases hn
  | makeFunc fn a b =>
    rw [ho] at hn
    simp only [] at hn
    split at hn <;> first | (cases hn; exact ⟨_, rfl⟩) | cases hn
  | slice t x lo hi mx => rw [ho] at hn; exact hnv hn
  | fieldAddr s x f =>
    rw [ho] at hn
    simp only [] at hn
    split at hn
    · obtain ⟨fd, _, hn⟩ := opt_bind_some hn
      obtain ⟨k, _, hn⟩ := opt_bind_some hn
      cases hk : Nat.beq k 0 with
      | true => rw [hk] at hn; cases hn
      | false => rw [hk] at hn; cases hn; exact ⟨_, rfl⟩
    · cases hn
  | field t x f =>
    rw [ho] at hn
    simp only [] at hn
    split at hn
    · obtain ⟨fd, _, hn⟩ := opt_bind_some hn
      exact hnv hn
    · cases hn
  | indexAddr t x i =>
    rw [ho] at hn
    simp only [] at hn
    split at hn
    · split at hn
      · obtain ⟨k, _, rfl⟩ := opt_map_some hn; exact ⟨_, rfl⟩
      · cases hn
    · split at hn
      · obtain ⟨k, _, rfl⟩ := opt_map_some hn; exact ⟨_, rfl⟩
      · cases hn
    · cases hn
  | index t x i =>
    rw [ho] at hn
    simp only [] at hn
    split at hn
    · split at hn
      · obtain ⟨k, _, hn⟩ := opt_bind_some hn; exact hnv hn
      · cases hn
    · split at hn
      · obtain ⟨k, _, rfl⟩ := opt_map_some hn; exact ⟨_, rfl⟩
      · cases hn
    · cases hn
  | lookup t x i ok =>
    rw [ho] at hn
    simp only [] at hn
    split at hn
    · obtain ⟨es, _, hn⟩ := opt_bind_some hn
      split at hn
      · cases hn; exact ⟨_, rfl⟩
      · obtain ⟨z, _, rfl⟩ := opt_map_some hn; exact ⟨_, rfl⟩
      · cases hn
    · cases hn
  | typeAssert x s t ok =>
    rw [ho] at hn
    simp only [] at hn
    split at hn
    · cases hn
    · obtain ⟨_, hn⟩ := cond_some hn
      obtain ⟨z, _, rfl⟩ := opt_map_some hn; exact ⟨_, rfl⟩
    · split at hn
      · cases hn; exact ⟨_, rfl⟩
      · obtain ⟨_, hn⟩ := cond_some hn
        obtain ⟨z, _, rfl⟩ := opt_map_some hn; exact ⟨_, rfl⟩
    · cases hn
  | extract t i =>
    rw [ho] at hn
    simp only [] at hn
    split at hn
    · exact hnv hn
    · cases hn
  | convert s d x =>
    rw [ho] at hn hc
    simp only [] at hn hc
    split at hn
    · rename_i el b hud _
      rw [hud] at hc
      simp at hc
    · rename_i el a len cap hud _
      rw [hud] at hc
      simp at hc
    · exact hnv hn
  | call c =>
    rw [ho] at hn hc
    obtain ⟨callee, args, ats⟩ := c
    cases callee with
    | value f => simp at hc
    | invoke r m => simp at hc
    | builtin b =>
      simp only [] at hn
      cases b <;> simp at hc
      · unfold builtinA at hn
        split at hn <;> first
          | (obtain ⟨k, _, rfl⟩ := opt_map_some hn; exact ⟨_, rfl⟩)
          | (rename_i hb _; cases hb; done)
          | (rename_i hb _ _; cases hb; done)
          | (rename_i hb; cases hb; done)
          | (rename_i hb _ _ _; cases hb; done)
          | (cases hn; done)
      · unfold builtinA at hn
        split at hn <;> first
          | (cases hn; exact ⟨_, rfl⟩)
          | (rename_i hb _; cases hb; done)
          | (rename_i hb _ _; cases hb; done)
          | (rename_i hb; cases hb; done)
          | (rename_i hb _ _ _; cases hb; done)
          | (cases hn; done)
      · unfold builtinA at hn
        split at hn <;> first
          | (cases hn; exact ⟨_, rfl⟩)
          | (rename_i hb _; cases hb; done)
          | (rename_i hb _ _; cases hb; done)
          | (rename_i hb; cases hb; done)
          | (rename_i hb _ _ _; cases hb; done)
          | (cases hn; done)
  | alloc t => rw [ho] at hc; simp at hc
  | box t x => rw [ho] at hc; simp at hc
  | buildSlice t l p => rw [ho] at hc; simp at hc
  | makeMap t r => rw [ho] at hc; cases r <;> simp at hc
  | store t a x => rw [ho] at hc; simp at hc
  | ready g => rw [ho] at hn; cases hn
  | waits g => rw [ho] at hn; cases hn
  | sliceToArrayPointer a x => rw [ho] at hn; cases hn
  | makeChan t x => rw [ho] at hn; cases hn
  | makeSlice t l c => rw [ho] at hc; simp at hc
  | mapUpdate t m k x => rw [ho] at hc; simp at hc
  | insert t m k x => rw [ho] at hc; simp at hc
  | mapEntry t m k => rw [ho] at hn; cases hn
  | entryStore t m s x => rw [ho] at hn; cases hn
  | range t x => rw [ho] at hc; simp at hc
  | next i s => rw [ho] at hc; simp at hc
  | entry i => rw [ho] at hc; simp at hc
  | go c => rw [ho] at hn; cases hn
  | defer c => rw [ho] at hc; simp at hc
  | panic x => rw [ho] at hc; simp at hc
  | send c x => rw [ho] at hn; cases hn
  | recv t c ok => rw [ho] at hn; cases hn
  | select cs b => rw [ho] at hn; cases hn
end
end Go.AM

namespace Go.AM
open Go Go.RowKit

section
variable {P : Program} {X : FuncId → List Value → Option Value} {ops : Array Oper} {K n j : Nat} {T0 vals : PT Value} {h : AH} {listed : Array Bool} {arr : Array Value} {w : World} {e0 e : Env} {B0 : Nat}

def Lst (listed : Array Bool) (i : Nat) : Prop := listed[i]? = some true

/-- a region that draws, under way. -/
structure RI (P : Program) (X : FuncId → List Value → Option Value) (ops : Array Oper) (T0 : PT Value) (n K j : Nat) (vals : PT Value) (h : AH) (listed : Array Bool) (arr : Array Value) (w : World) (e0 e : Env) (B0 : Nat) : Prop where
  size : listed.size = ops.size
  closed : ∀ r ∈ rowsOf P ops, Lst listed r.i → ∀ p ∈ preds r.o, Lst listed p
  eff : ∀ r ∈ rowsOf P ops, isEff P r.o = true → (Lst listed r.i ↔ r.no < j)
  jK : j ≤ K
  arrn : arr.size = n
  wrote : ∀ r ∈ rowsOf P ops, Lst listed r.i → ∀ d, r.o.dst = some d → VRel e ((vals.get r.i).getD undef) (arr.getD d undef)
  kept : ∀ t, (∀ r ∈ rowsOf P ops, Lst listed r.i → r.o.dst ≠ some t) → VRel e ((T0.get t).getD undef) (arr.getD t undef)
  heap : HRel e B0 h w
  le : e0.le e
  pend : ∀ r ∈ rowsOf P ops, clsOf P r.o = .alloc → r.e0 ≤ j → ¬ Lst listed r.i → ∀ b, (vals.get r.i).bind blockOf = some b → e.loc b = none ∧ (∀ b' x, e.loc b' = some x → e.fam b' ≠ b) ∧ e0.nx ≤ b ∧ b < h.next
  dist : ∀ r ∈ rowsOf P ops, ∀ q ∈ rowsOf P ops, r.i ≠ q.i → clsOf P r.o = .alloc → clsOf P q.o = .alloc → r.e0 ≤ j → q.e0 ≤ j → ¬ Lst listed r.i → ¬ Lst listed q.i → ∀ b, (vals.get r.i).bind blockOf = some b → (vals.get q.i).bind blockOf ≠ some b
  chk : checkAll P X (rowsOf P ops) T0 vals h j = true

theorem RI.early (R : RI P X ops T0 n K j vals h listed arr w e0 e B0) (hok : ∀ r ∈ rowsOf P ops, ROK P (rowsOf P ops) K r) : ∀ (i : Nat) (r : Row), r.i = i → r ∈ rowsOf P ops → (∀ p ∈ preds r.o, Lst listed p) → r.e0 ≤ j := by
  intro i
  induction i using Nat.strongRecOn with
  | _ i ih =>
    intro r hi hr hp
    rcases (hok r hr).early with h0 | ⟨p, q, hpp, hq, hle⟩
    · omega
    · have hqm := List.mem_of_getElem? hq
      have hqi : q.i = p := (op_of_row hq).2
      have hS := hp p hpp
      cases hqe : isEff P q.o with
      | true =>
        rw [hqe, cond_true] at hle
        have := (R.eff q hqm hqe).1 (by rw [hqi]; exact hS)
        omega
      | false =>
        rw [hqe, cond_false] at hle
        have hlt := (hok r hr).pre p hpp
        have := ih p (by omega) q hqi hqm (R.closed q hqm (by rw [hqi]; exact hS))
        omega

theorem row_lt {r : Row} (hr : r ∈ rowsOf P ops) : r.i < (rowsOf P ops).length := by
  have := (row_mem hr).1
  rcases Nat.lt_or_ge r.i (rowsOf P ops).length with h | h
  · exact h
  · rw [List.getElem?_eq_none h] at this; cases this

theorem RI.late (R : RI P X ops T0 n K j vals h listed arr w e0 e B0) (hok : ∀ r ∈ rowsOf P ops, ROK P (rowsOf P ops) K r) : ∀ (m : Nat) (r : Row), (rowsOf P ops).length - r.i = m → r ∈ rowsOf P ops → ¬ Lst listed r.i → j ≤ r.l := by
  intro m
  induction m using Nat.strongRecOn with
  | _ m ih =>
    intro r hm hr hS
    rcases (hok r hr).late with hK | ⟨q, hq, hpq, hle⟩
    · have := R.jK; omega
    · have hSq : ¬ Lst listed q.i := fun hh => hS (R.closed q hq hh _ hpq)
      cases hqe : isEff P q.o with
      | true =>
        rw [hqe, cond_true] at hle
        have : ¬ q.no < j := fun hh => hSq ((R.eff q hq hqe).2 hh)
        omega
      | false =>
        rw [hqe, cond_false] at hle
        have hlt := (hok q hq).pre _ hpq
        have := row_lt hq
        have := ih _ (by omega) q rfl hq hSq
        omega

theorem any_beq_mem {l : List Nat} {x : Nat} (h : x ∈ l) : (l.any fun y => Nat.beq y x) = true := List.any_eq_true.2 ⟨x, h, by simp⟩

theorem RI.evalR (R : RI P X ops T0 n K j vals h listed arr w e0 e B0) (hok : ∀ r ∈ rowsOf P ops, ROK P (rowsOf P ops) K r) {r : Row} (hr : r ∈ rowsOf P ops) (hS : ¬ Lst listed r.i) (hp : ∀ p ∈ preds r.o, Lst listed p)
    {fr : Frame} (hfr : fr.tmps = arr) : ∀ x, x ∈ r.o.op.operands.toList → okOpd x = true → VRel e (Go.AM.evalR (rowsOf P ops) T0 vals r x) (fr.eval x) := by
  intro x hx hox
  cases x with
  | const v => exact flat_rel e v hox
  | global g => cases hox
  | func f => exact VRel.func' (.func f) VsRel.nil VsRel.nil
  | tmp t =>
    show VRel e _ (fr.tmps.getD t undef)
    rw [hfr]
    simp only [Go.AM.evalR]
    have htm : t ∈ tmpsIn r.o := by
      unfold tmpsIn
      exact List.mem_filterMap.2 ⟨.tmp t, hx, rfl⟩
    cases hw : writer (rowsOf P ops) t with
    | none => exact R.kept t (fun q hq _ => writer_none hw q hq)
    | some wr =>
      obtain ⟨q, hq, hqi, hqd⟩ := writer_spec hw
      simp only []
      cases hany : (preds r.o).any fun y => Nat.beq y wr with
      | true =>
        have hmem := any_beq hany
        rw [cond_true]
        have := R.wrote q hq (by rw [hqi]; exact hp _ hmem) t hqd
        rw [hqi] at this
        exact this
      | false =>
        rw [cond_false]
        have hnS : ¬ Lst listed wr := by
          rcases (hok r hr).tmps t htm wr hw with h1 | h1 | ⟨q2, h1, h2⟩
          · rw [h1]; exact hS
          · rw [any_beq_mem h1] at hany; cases hany
          · intro hh
            have hqm := List.mem_of_getElem? h1
            have hqi2 : q2.i = wr := (op_of_row h1).2
            exact hS (R.closed q2 hqm (by rw [hqi2]; exact hh) _ h2)
        refine R.kept t (fun q2 hq2 hS2 hd2 => ?_)
        by_cases hne : q2.i = q.i
        · rw [hne, hqi] at hS2; exact hnS hS2
        · exact (hok q hq).dst t hqd q2 hq2 hne hd2

theorem bool_get {v : Option Value} {a : Option Value} (h : VRel e (v.getD undef) (a.getD undef)) (want : Bool) :
    ((match (generalizing := false) a with | some (.bool b) => some b | _ => none) == some want) = (match (generalizing := false) v with | some (.bool b) => b == want | _ => false) := by
  cases a with
  | none =>
    simp only [Option.getD_none] at h
    cases v with
    | none => rfl
    | some x =>
      simp only [Option.getD_some] at h
      cases x <;> first | rfl | (cases h)
  | some y =>
    simp only [Option.getD_some] at h
    cases v with
    | none =>
      simp only [Option.getD_none] at h
      cases y <;> first | rfl | (cases h)
    | some x =>
      simp only [Option.getD_some] at h
      cases h <;> first | rfl | (rename_i b; cases b <;> cases want <;> rfl)

theorem RI.wanted (R : RI P X ops T0 n K j vals h listed arr w e0 e B0) (hok : ∀ r ∈ rowsOf P ops, ROK P (rowsOf P ops) K r) {r : Row} (hr : r ∈ rowsOf P ops) (hp : ∀ p ∈ preds r.o, Lst listed p) :
    Region.wanted r.o (yielded ops arr) = wantedR vals r.o := by
  unfold Region.wanted wantedR
  cases hg : r.o.guard with
  | none => rfl
  | some gb =>
    obtain ⟨g, want⟩ := gb
    simp only []
    obtain ⟨hgp, q, d, hq, hd⟩ := (hok r hr).guard g want hg
    have hqm := List.mem_of_getElem? hq
    obtain ⟨hqo, hqi⟩ := op_of_row hq
    have hV := R.wrote q hqm (by rw [hqi]; exact hp _ hgp) d hd
    rw [hqi, Array.getD_eq_getD_getElem?] at hV
    refine Eq.trans ?_ (bool_get hV want)
    unfold yielded
    rw [hqo]
    simp only [Option.bind_some, hd]
    rfl

/-- what the check says of a row. -/
theorem RI.check (R : RI P X ops T0 n K j vals h listed arr w e0 e B0) {r : Row} (hr : r ∈ rowsOf P ops) (he : isEff P r.o = false) (h1 : r.e0 ≤ j) (h2 : j ≤ r.l) : checkR P X (rowsOf P ops) T0 vals h r = true := by
  have := List.all_eq_true.1 R.chk r hr
  simp only [he, nblt, Bool.false_or, Bool.or_eq_true, decide_eq_true_eq] at this
  rcases this with (this | this) | this
  · omega
  · omega
  · exact this
end
end Go.AM

namespace Go.AM
open Go Go.RowKit

section
variable {P : Program} {X : FuncId → List Value → Option Value} {ops : Array Oper} {K n j : Nat} {T0 vals : PT Value} {h : AH} {listed : Array Bool} {arr : Array Value} {w : World} {e0 e : Env} {B0 : Nat}

def Pend (e : Env) (b : Nat) : Prop := e.loc b = none ∧ ∀ b' x, e.loc b' = some x → e.fam b' ≠ b

theorem Pend.le {e' : Env} {b : Nat} (hle : e.le e') (hb : b < e.nx) (hp : Pend e b) : Pend e' b := by
  refine ⟨?_, fun b' x hx => ?_⟩
  · cases hl : e'.loc b with
    | none => rfl
    | some x =>
      rcases hle.new b x hl with h1 | ⟨h1, _⟩
      · rw [hp.1] at h1; cases h1
      · omega
  · rcases hle.new b' x hx with h1 | ⟨h1, h2⟩
    · rw [hle.fam b' x.1 x.2 h1]; exact hp.2 b' x h1
    · rcases h2 with h2 | ⟨b0, x0, h2, h3⟩
      · omega
      · rw [h3]; exact hp.2 b0 x0 h2

theorem lst_set {i p : Nat} : Lst (listed.setIfInBounds i true) p ↔ (p = i ∧ i < listed.size) ∨ Lst listed p := by
  unfold Lst
  rw [Array.getElem?_setIfInBounds]
  by_cases h : i = p
  · subst h
    rw [if_pos rfl]
    by_cases h2 : i < listed.size
    · rw [if_pos h2]; exact Iff.intro (fun _ => .inl ⟨rfl, h2⟩) (fun _ => rfl)
    · rw [if_neg h2]
      refine ⟨(fun h => by cases h), fun h => ?_⟩
      rcases h with h | h
      · exact absurd h.2 h2
      · rw [Array.getElem?_eq_none (by omega)] at h; cases h
  · rw [if_neg h]
    refine ⟨.inr, fun hh => ?_⟩
    rcases hh with hh | hh
    · exact absurd hh.1.symm h
    · exact hh

theorem putArr_size (a : Array Value) (d : Option Tmp) (v : Value) : (putArr a d v).size = a.size := by cases d <;> simp [putArr]

theorem putArr_same {a : Array Value} {d : Tmp} {v : Value} (hd : d < a.size) : (putArr a (some d) v).getD d undef = v := by
  simp only [putArr]
  rw [Array.getD_eq_getD_getElem?, Array.getElem?_setIfInBounds, if_pos rfl, if_pos hd]; rfl

theorem putArr_other {a : Array Value} {d : Option Tmp} {t : Tmp} {v : Value} (hd : d ≠ some t) : (putArr a d v).getD t undef = a.getD t undef := by
  cases d with
  | none => rfl
  | some d =>
    simp only [putArr]
    rw [Array.getD_eq_getD_getElem?, Array.getD_eq_getD_getElem?, Array.getElem?_setIfInBounds_ne (fun hx => hd (by rw [hx]))]

/-- a row's value is put where it belongs. -/
theorem RI.put (R : RI P X ops T0 n K j vals h listed arr w e0 e B0) (hok : ∀ r ∈ rowsOf P ops, ROK P (rowsOf P ops) K r) (hdn : ∀ r ∈ rowsOf P ops, ∀ d, r.o.dst = some d → d < n)
    {r : Row} (hr : r ∈ rowsOf P ops) (he : isEff P r.o = false) (hS : ¬ Lst listed r.i) (hp : ∀ p ∈ preds r.o, Lst listed p)
    {e' : Env} {w' : World} {v' : Value} (H' : HRel e' B0 h w') (hsub : e.sub e') (hle : e0.le e') (hv : VRel e' ((vals.get r.i).getD undef) v')
    (hpend : ∀ q ∈ rowsOf P ops, clsOf P q.o = .alloc → q.e0 ≤ j → ¬ Lst listed q.i → q.i ≠ r.i → ∀ b, (vals.get q.i).bind blockOf = some b → Pend e' b) :
    RI P X ops T0 n K j vals h (listed.setIfInBounds r.i true) (putArr arr r.o.dst v') w' e0 e' B0 := by
  have hri := row_mem hr
  have hlt : r.i < listed.size := by
    rw [R.size]
    exact (Array.getElem?_eq_some_iff.1 hri.2).1
  refine ⟨by simp [R.size], ?_, ?_, R.jK, by rw [putArr_size]; exact R.arrn, ?_, ?_, H', hle, ?_, ?_, R.chk⟩
  · intro q hq hL p hpp
    rw [lst_set] at hL ⊢
    rcases hL with ⟨hqi, _⟩ | hL
    · rw [row_unique hq hr hqi] at hpp
      exact .inr (hp p hpp)
    · exact .inr (R.closed q hq hL p hpp)
  · intro q hq hqe
    rw [lst_set]
    rw [← R.eff q hq hqe]
    refine ⟨fun hh => ?_, .inr⟩
    rcases hh with ⟨hqi, _⟩ | hh
    · rw [row_unique hq hr hqi, he] at hqe; cases hqe
    · exact hh
  · intro q hq hL d hd
    rw [lst_set] at hL
    by_cases hqi : q.i = r.i
    · have := row_unique hq hr hqi
      subst this
      rw [hd, putArr_same (by rw [R.arrn]; exact hdn q hq d hd)]
      exact hv
    · rcases hL with ⟨h1, _⟩ | hL
      · exact absurd h1 hqi
      · rw [putArr_other ((hok q hq).dst d hd r hr (fun h => hqi h.symm))]
        exact (R.wrote q hq hL d hd).monoS hsub
  · intro t ht
    have h1 : r.o.dst ≠ some t := ht r hr (lst_set.2 (.inl ⟨rfl, hlt⟩))
    rw [putArr_other h1]
    exact (R.kept t (fun q hq hL => ht q hq (lst_set.2 (.inr hL)))).monoS hsub
  · intro q hq hc hqe hL b hb
    have hL' : ¬ Lst listed q.i := fun hh => hL (lst_set.2 (.inr hh))
    have hne : q.i ≠ r.i := fun hh => hL (lst_set.2 (.inl ⟨hh, hlt⟩))
    obtain ⟨_, _, h3, h4⟩ := R.pend q hq hc hqe hL' b hb
    obtain ⟨h1, h2⟩ := hpend q hq hc hqe hL' hne b hb
    exact ⟨h1, h2, h3, h4⟩
  · intro q hq q2 hq2 hne hc hc2 h1 h2 hL hL2 b hb
    exact R.dist q hq q2 hq2 hne hc hc2 h1 h2 (fun hh => hL (lst_set.2 (.inr hh))) (fun hh => hL2 (lst_set.2 (.inr hh))) b hb

/-- the frame in the region. -/
def frAt (fr : Frame) (arr : Array Value) (ops : Array Oper) (idx : List Nat) (k : List Item) : Frame := { fr with tmps := arr, todo := .inRegion ops idx :: k }

theorem frAt_eq {fr : Frame} (hm : fr.mode = .run) {idx : List Nat} {k : List Item} : frAt fr arr ops idx k = fr.atR ⟨arr, fr.defers⟩ (.inRegion ops idx :: k) := by
  cases fr
  simp only at hm
  subst hm
  rfl

theorem frAt_finish {fr : Frame} {i : Nat} {rest : List Nat} {k : List Item} {o : Oper} (ho : ops[i]? = some o) (v : Value) : (frAt fr arr ops (i :: rest) k).finish v = frAt fr (putArr arr o.dst v) ops rest k := by
  simp only [frAt, Frame.finish, ho, Option.bind_some]
  cases o.dst <;> rfl

theorem step_skipped {fr : Frame} (hm : fr.mode = .run) {i : Nat} {rest : List Nat} {k : List Item} {o : Oper} {cs : List Frame} (ho : ops[i]? = some o) (hw : Region.wanted o (yielded ops arr) = false) :
    step P (lone (frAt fr arr ops (i :: rest) k) cs w) = .next (lone (frAt fr (putArr arr o.dst undef) ops rest k) cs w) := by
  have := stepR_op_skip (P := P) (b := fr) (a := ⟨arr, fr.defers⟩) (k := k) (rest := rest) (cs := cs) (w := w) (ops := ops) (i := i) (by rw [ho]; exact hw)
  rw [← Frame.finish_atR, ← frAt_eq hm, frAt_finish ho] at this
  exact this

theorem step_wanted {fr : Frame} (hm : fr.mode = .run) {i : Nat} {rest : List Nat} {k : List Item} {o : Oper} {cs : List Frame} (ho : ops[i]? = some o) (hw : Region.wanted o (yielded ops arr) = true) (hd : ∀ c, o.op ≠ .defer c) :
    stepG P true { frame := frAt fr arr ops (i :: rest) k, callers := cs, status := .running, dying := none } w = stepG.apply P true (frAt fr arr ops (i :: rest) k) cs none (execOp (frAt fr arr ops (i :: rest) k).eval o) w := by
  have hst := stepGR_op (P := P) (b := fr) (a := ⟨arr, fr.defers⟩) (k := k) (rest := rest) (cs := cs) (w := w) ho hw
  rw [Oper.semAt_eq _ _ _ hd] at hst
  rw [← frAt_eq hm] at hst
  rw [hst]
  congr 1

theorem step_value {fr : Frame} (hm : fr.mode = .run) {i : Nat} {rest : List Nat} {k : List Item} {o : Oper} {cs : List Frame} {v' : Value} {w' : World} (ho : ops[i]? = some o) (hw : Region.wanted o (yielded ops arr) = true) (hd : ∀ c, o.op ≠ .defer c)
    (hr : (execOp (frAt fr arr ops (i :: rest) k).eval o).run P w = .ok (.value v') w') :
    step P (lone (frAt fr arr ops (i :: rest) k) cs w) = .next (lone (frAt fr (putArr arr o.dst v') ops rest k) cs w') := by
  rw [← frAt_finish ho v']
  exact step_lone_go (by rw [step_wanted hm ho hw hd]; simp [stepG.apply, Sem.runT_eq, hr])

theorem not_defer {o : Oper} (hc : isEff P o = false) : ∀ c, o.op ≠ .defer c := by
  intro c ho
  unfold isEff clsOf at hc
  rw [ho] at hc
  cases hc

/-- a row that is no effect. -/
theorem RI.quiet (G : Good P X) (R : RI P X ops T0 n K j vals h listed arr w e0 e B0) (hok : ∀ r ∈ rowsOf P ops, ROK P (rowsOf P ops) K r) (hdn : ∀ r ∈ rowsOf P ops, ∀ d, r.o.dst = some d → d < n)
    {r : Row} (hr : r ∈ rowsOf P ops) (he : isEff P r.o = false) (hS : ¬ Lst listed r.i) (hp : ∀ p ∈ preds r.o, Lst listed p)
    {fr : Frame} (hm : fr.mode = .run) {rest : List Nat} {k : List Item} {cs : List Frame} :
    ∃ arr' w' e', step P (lone (frAt fr arr ops (r.i :: rest) k) cs w) = .next (lone (frAt fr arr' ops rest k) cs w') ∧ RI P X ops T0 n K j vals h (listed.setIfInBounds r.i true) arr' w' e0 e' B0 ∧ Below B0 w w' := by
  have hri := row_mem hr
  have h1 := R.early hok r.i r rfl hr hp
  have h2 := R.late hok _ r rfl hr hS
  have hck := R.check hr he h1 h2
  have hwt := R.wanted hok hr hp
  have hev := R.evalR hok hr hS hp (fr := frAt fr arr ops (r.i :: rest) k) rfl
  unfold checkR at hck
  cases hu : vals.get r.i with
  | none => rw [hu] at hck; cases hck
  | some u =>
    rw [hu] at hck
    simp only [] at hck
    cases hwv : wantedR vals r.o with
    | false =>
      rw [hwv, cond_false] at hck
      rw [hwv] at hwt
      have huu := veq_eq _ _ hck
      refine ⟨_, w, e, step_skipped hm hri.2 hwt, R.put hok hdn hr he hS hp R.heap e.sub_refl R.le ?_ ?_, Below.refl _ _⟩
      · rw [hu]
        show VRel e u undef
        rw [huu]; exact undef_rel e
      · intro q hq hc hqe hL hne b hb
        have := R.pend q hq hc hqe hL b hb
        exact ⟨this.1, this.2.1⟩
    | true =>
      rw [hwv, cond_true] at hck
      rw [hwv] at hwt
      have hquiet : (clsOf P r.o = .pure ∨ clsOf P r.o = .read) → (match execA P X h (Go.AM.evalR (rowsOf P ops) T0 vals r) r.o with
          | some (.value v _) => veq u v
          | _ => false) = true → ∃ arr' w' e', step P (lone (frAt fr arr ops (r.i :: rest) k) cs w) = .next (lone (frAt fr arr' ops rest k) cs w') ∧ RI P X ops T0 n K j vals h (listed.setIfInBounds r.i true) arr' w' e0 e' B0 ∧ Below B0 w w' := by
        intro hc hck
        split at hck
        · rename_i v h2 hx
          have huv := veq_eq _ _ hck
          subst huv
          have hO := exec_sim G R.heap hev hx
          have hh2 : h2 = h := by
            rcases quiet_exec hc hx with ⟨v2, hv2⟩ | hv2
            · cases hv2; rfl
            · exact absurd rfl (hv2 _ _)
          subst hh2
          obtain ⟨e', hle, v', w', hrun, hvv, H', hb⟩ := hO
          refine ⟨_, w', e', step_value hm hri.2 hwt (not_defer he) hrun, R.put hok hdn hr he hS hp H' hle.sub (Env.le_trans R.le hle) (by rw [hu]; exact hvv) ?_, hb⟩
          intro q hq hc hqe hL hne b hb
          have := R.pend q hq hc hqe hL b hb
          exact Pend.le hle (by rw [R.heap.nx]; exact this.2.2.2) ⟨this.1, this.2.1⟩
        · cases hck
      cases hc : clsOf P r.o with
      | effect => rw [isEff, hc] at he; cases he
      | pure => rw [hc] at hck; exact hquiet (.inl hc) hck
      | read => rw [hc] at hck; exact hquiet (.inr hc) hck
      | alloc =>
        rw [hc] at hck
        simp only [] at hck
        have hnew : ∃ b, blockOf u = some b ∧ checkNew P X (rowsOf P ops) T0 vals h r u b = true := by
          split at hck
          · rename_i a; exact ⟨_, rfl, hck⟩
          · rename_i a _ _; exact ⟨_, rfl, hck⟩
          · rename_i b; exact ⟨_, rfl, hck⟩
          · cases hck
        obtain ⟨b, hbu, hck⟩ := hnew
        obtain ⟨hp1, hp2, hp3, hp4⟩ := R.pend r hr hc h1 hS b (by rw [hu]; exact hbu)
        unfold checkNew at hck
        split at hck
        case h_2 => cases hck
        rename_i v h' hx
        simp only [Bool.and_eq_true] at hck
        obtain ⟨⟨hveq, hfn⟩, htree⟩ := hck
        have huv := veq_eq _ _ hveq
        subst huv
        have hfn' : h.fams.get b = none := by cases hq : h.fams.get b <;> simp_all
        obtain ⟨v2, h12, hn2, hmade⟩ := alloc_exec (e := e) (w := w) (ρ' := (frAt fr arr ops (r.i :: rest) k).eval) hev hc hx
        cases hn2
        obtain ⟨hbn, hbo, ob, o', v', hh1, hrun, hvr, hkind⟩ := hmade
        have hbfar : b < Go.AM.far := by have := R.heap.base; unfold Go.AM.far; omega
        have hget : h'.tree.get b = some ob := by
          rw [hh1]
          show (PT.set 64 h.tree b ob).get b = _
          rw [PT.get_set _ _ _ _ hbfar, if_pos rfl]
        have htb : h.tree.get b = some ob := by
          rw [hget] at htree
          rcases hkind with ⟨ds, es, ar, t, rfl, _, _, _⟩ | ⟨rfl, _⟩
          · split at htree
            · rename_i cs2 n2 es2 f2 d2 ds2 m2 es3 f3 d3 hg1 hg2
              cases hg2
              simp only [Bool.and_eq_true, nbeq, decide_eq_true_eq] at htree
              obtain ⟨⟨⟨⟨q1, q2⟩, q3⟩, q4⟩, q5⟩ := htree
              have := veqs_eq _ _ q3
              rw [hg1, q1, q2, this, q4, q5]
            · rename_i hg1 hg2; cases hg2
            · cases htree
          · split at htree
            · rename_i hg1 hg2; cases hg2
            · rename_i hg1 hg2; exact hg1
            · cases htree
        have hfin : ∀ (len es sz : Nat), HRel (e.map b w.heap.size len es sz) B0 h { w with heap := w.heap.push o' } →
            ∃ arr' w' e', step P (lone (frAt fr arr ops (r.i :: rest) k) cs w) = .next (lone (frAt fr arr' ops rest k) cs w') ∧ RI P X ops T0 n K j vals h (listed.setIfInBounds r.i true) arr' w' e0 e' B0 ∧ Below B0 w w' := by
          intro len es sz H'
          have hsub : e.sub (e.map b w.heap.size len es sz) := Env.map_sub hp1 (fun b' d' hb' => by have := (R.heap.low hb').1; omega)
          have hfb : (e.map b w.heap.size len es sz).fam b = b := by simp [Env.map, Env.ext]
          have hlb : (e.map b w.heap.size len es sz).loc b = some (w.heap.size, 0) := by simp [Env.map, Env.ext]
          have hlo : ∀ b2, b2 ≠ b → (e.map b w.heap.size len es sz).loc b2 = e.loc b2 := fun b2 h2 => by simp [Env.map, Env.ext, h2]
          have hfo : ∀ b2, b2 ≠ b → (e.map b w.heap.size len es sz).fam b2 = e.fam b2 := fun b2 h2 => by simp [Env.map, Env.ext, h2]
          have hle : e0.le (e.map b w.heap.size len es sz) := by
            refine ⟨Env.sub_trans R.le.sub hsub, R.le.nx, fun b2 x hx2 => ?_⟩
            by_cases hb2 : b2 = b
            · subst hb2
              exact .inr ⟨hp3, .inl (by rw [hfb]; exact hp3)⟩
            · rw [hlo b2 hb2] at hx2
              rw [hfo b2 hb2]
              exact R.le.new b2 x hx2
          refine ⟨_, _, _, step_value hm hri.2 hwt (not_defer he) hrun, R.put hok hdn hr he hS hp H' hsub hle (by rw [hu]; exact hvr _ hlb) ?_, below_push R.heap.base.2.2 _⟩
          intro q hq hcq hqe hL hne b2 hb2
          have hp' := R.pend q hq hcq hqe hL b2 hb2
          have hne2 : b2 ≠ b := by
            intro hbb
            subst hbb
            exact R.dist r hr q hq (fun hh => hne hh.symm) hc hcq h1 hqe hS hL b2 (by rw [hu]; exact hbu) hb2
          refine ⟨by rw [hlo b2 hne2]; exact hp'.1, fun b3 x3 hx3 => ?_⟩
          by_cases hb3 : b3 = b
          · subst hb3; rw [hfb]; exact fun hh => hne2 hh.symm
          · rw [hlo b3 hb3] at hx3
            rw [hfo b3 hb3]
            exact hp'.2.1 b3 x3 hx3
        rcases hkind with ⟨ds, es, ar, t, rfl, rfl, hsz, hVs⟩ | ⟨rfl, rfl⟩
        · refine hfin ds.length es ds.length (R.heap.mapNew hp1 hp4 hp2 hfn' htb ?_ (fun hno => by cases hno))
          intro cs2 size2 es2 fam2 delta2 hrow
          cases hrow
          exact ⟨rfl, rfl, rfl, rfl, rfl, Nat.le_refl _, ar, t, (0, 0), rfl, hsz, thawed0 _, rel_arr hVs⟩
        · refine hfin 0 0 0 (R.heap.mapNew hp1 hp4 hp2 hfn' htb (fun cs2 size2 es2 fam2 delta2 hrow => by cases hrow) (fun _ e' _ => ⟨rfl, rfl, fun i x y hx => by simp at hx⟩))
end
end Go.AM

namespace Go.AM
open Go Go.RowKit

section
variable {P : Program} {X : FuncId → List Value → Option Value} {ops : Array Oper} {K n j : Nat} {T0 vals : PT Value} {h : AH} {listed : Array Bool} {arr : Array Value} {w : World} {e0 e : Env} {B0 : Nat} {ρ : Operand → Value}

theorem alloc_shape {hx : AH} {o : Oper} {n : ANext} (hc : clsOf P o = .alloc) (hn : execA P X hx ρ o = some n) :
    ∃ v ob, n = .value v { tree := PT.set 64 hx.tree hx.next ob, fams := hx.fams, next := hx.next + 1 } ∧ blockOf v = some hx.next ∧ hx.next < 1000000000 := by
  unfold execA at hn
  obtain ⟨_, hn⟩ := cond_some hn
  unfold opA at hn
  rcases cls_alloc hc with ⟨t, ho⟩ | ⟨t, x, ho⟩ | ⟨t, len, parts, ho⟩ | ⟨t, ho⟩
  · rw [ho] at hn
    obtain ⟨z, hz, hn⟩ := opt_bind_some hn
    obtain ⟨⟨h1, b⟩, hn1, rfl⟩ := opt_map_some hn
    obtain ⟨g1, g2, rfl, rfl⟩ := newRow_parts hn1
    exact ⟨_, _, rfl, rfl, g1⟩
  · rw [ho] at hn
    obtain ⟨⟨h1, b⟩, hn1, rfl⟩ := opt_map_some hn
    obtain ⟨g1, g2, rfl, rfl⟩ := newRow_parts hn1
    exact ⟨_, _, rfl, rfl, g1⟩
  · rw [ho] at hn
    simp only [] at hn
    split at hn
    case h_2 => cases hn
    split at hn
    case h_2 => cases hn
    obtain ⟨_, hn⟩ := cond_some hn
    obtain ⟨cs, hf, hn⟩ := opt_bind_some hn
    obtain ⟨⟨h1, b⟩, hn1, rfl⟩ := opt_map_some hn
    obtain ⟨g1, g2, rfl, rfl⟩ := newRow_parts hn1
    exact ⟨_, _, rfl, rfl, g1⟩
  · rw [ho] at hn
    obtain ⟨⟨h1, b⟩, hn1, rfl⟩ := opt_map_some hn
    unfold AH.newObj at hn1
    obtain ⟨hcc, hn2⟩ := cond_some hn1
    simp only [nblt, decide_eq_true_eq] at hcc
    cases hn2
    exact ⟨_, _, rfl, rfl, hcc⟩

def bl (vals : PT Value) (i : Nat) : Option Nat := (vals.get i).bind blockOf

theorem nx_self {e : Env} {k : Nat} (h : e.nx = k) : ({ e with nx := k } : Env) = e := by cases e; simp only at h; subst h; rfl

theorem stageA_sim (hsz : (rowsOf P ops).length < 1000000) : ∀ (l : List Row) (vals : PT Value) (h : AH) (e : Env) (vals' : PT Value) (h' : AH), stageA P X (rowsOf P ops) T0 j l vals h = some (vals', h') → (∀ r ∈ l, r ∈ rowsOf P ops) → l.Pairwise (fun a b => a.i ≠ b.i) → HRel e B0 h w →
    (∀ i, (∀ r ∈ l, r.i = i → isEff P r.o = true ∨ r.e0 ≠ j) → vals'.get i = vals.get i) ∧ HRel { e with nx := h'.next } B0 h' w ∧ h.next ≤ h'.next ∧
    (∀ r ∈ l, clsOf P r.o = .alloc → r.e0 = j → ∀ b, bl vals' r.i = some b → h.next ≤ b ∧ b < h'.next) ∧
    (∀ r ∈ l, ∀ q ∈ l, r.i ≠ q.i → clsOf P r.o = .alloc → clsOf P q.o = .alloc → r.e0 = j → q.e0 = j → ∀ b, bl vals' r.i = some b → bl vals' q.i ≠ some b)
  | [], vals, h, e, vals', h', hx, _, _, H => by
    cases hx
    exact ⟨fun _ _ => rfl, by rw [nx_self H.nx]; exact H, Nat.le_refl _, (fun r hr => by cases hr), (fun r hr => by cases hr)⟩
  | r :: more, vals, h, e, vals', h', hx, hm, hpw, H => by
    have hrm := hm r (by simp)
    have hpw' := List.pairwise_cons.1 hpw
    have hfar : r.i < far := by have := row_lt hrm; unfold far; omega
    simp only [stageA] at hx
    cases hc : (isEff P r.o || !(Nat.beq r.e0 j)) with
    | true =>
      rw [hc, cond_true] at hx
      obtain ⟨i1, i2, i3, i4, i5⟩ := stageA_sim hsz more vals h e vals' h' hx (fun q hq => hm q (by simp [hq])) hpw'.2 H
      have hno : clsOf P r.o = .alloc → r.e0 = j → False := by
        intro h1 h2
        simp [isEff, h1, h2] at hc
      refine ⟨fun i hi => i1 i (fun q hq => hi q (by simp [hq])), i2, i3, fun q hq h1 h2 => ?_, fun q hq q2 hq2 hne h1 h2 h3 h4 => ?_⟩
      · rcases List.mem_cons.1 hq with rfl | hq
        · exact (hno h1 h2).elim
        · exact i4 q hq h1 h2
      · rcases List.mem_cons.1 hq with rfl | hq
        · exact (hno h1 h3).elim
        · rcases List.mem_cons.1 hq2 with rfl | hq2
          · exact (hno h2 h4).elim
          · exact i5 q hq q2 hq2 hne h1 h2 h3 h4
    | false =>
      rw [hc, cond_false] at hx
      simp only [Bool.or_eq_false_iff, Bool.not_eq_false', nbeq, decide_eq_true_eq] at hc
      obtain ⟨hne, hej⟩ := hc
      -- the value that is put, the blocks behind it
      have hgo : ∀ (v : Value) (h1 : AH), stageA P X (rowsOf P ops) T0 j more (PT.set 64 vals r.i v) h1 = some (vals', h') → HRel { e with nx := h1.next } B0 h1 w → h.next ≤ h1.next → (clsOf P r.o = .alloc → ∀ b, blockOf v = some b → b = h.next ∧ h.next < h1.next) →
          (∀ i, (∀ q ∈ r :: more, q.i = i → isEff P q.o = true ∨ q.e0 ≠ j) → vals'.get i = vals.get i) ∧ HRel { e with nx := h'.next } B0 h' w ∧ h.next ≤ h'.next ∧
          (∀ q ∈ r :: more, clsOf P q.o = .alloc → q.e0 = j → ∀ b, bl vals' q.i = some b → h.next ≤ b ∧ b < h'.next) ∧
          (∀ q ∈ r :: more, ∀ q2 ∈ r :: more, q.i ≠ q2.i → clsOf P q.o = .alloc → clsOf P q2.o = .alloc → q.e0 = j → q2.e0 = j → ∀ b, bl vals' q.i = some b → bl vals' q2.i ≠ some b) := by
        intro v h1 hx1 H1 hn1 hb1
        obtain ⟨i1, i2, i3, i4, i5⟩ := stageA_sim hsz more _ h1 _ vals' h' hx1 (fun q hq => hm q (by simp [hq])) hpw'.2 H1
        have hget : ∀ i, (PT.set 64 vals r.i v).get i = if i = r.i then some v else vals.get i := fun i => PT.get_set _ _ _ _ hfar
        have hvr : vals'.get r.i = some v := by
          rw [i1 r.i (fun q hq hqi => absurd hqi.symm (hpw'.1 q hq)), hget, if_pos rfl]
        have hbr : clsOf P r.o = .alloc → ∀ b, bl vals' r.i = some b → b = h.next ∧ h.next < h1.next := by
          intro h2 b hb
          unfold bl at hb
          rw [hvr] at hb
          exact hb1 h2 b hb
        refine ⟨fun i hi => ?_, i2, Nat.le_trans hn1 i3, fun q hq h2 h3 b hb => ?_, fun q hq q2 hq2 hqq h2 h3 h4 h5 b hb hb2 => ?_⟩
        · have hir : i ≠ r.i := by
            intro hir
            rcases hi r (by simp) hir.symm with h2 | h2
            · rw [hne] at h2; cases h2
            · exact h2 hej
          rw [i1 i (fun q hq => hi q (by simp [hq])), hget, if_neg hir]
        · rcases List.mem_cons.1 hq with rfl | hq
          · obtain ⟨h6, h7⟩ := hbr h2 b hb
            omega
          · have := i4 q hq h2 h3 b hb
            omega
        · rcases List.mem_cons.1 hq with hq' | hq'
          · rcases List.mem_cons.1 hq2 with hq2' | hq2'
            · exact hqq (by rw [hq', hq2'])
            · rw [hq'] at hb h2
              obtain ⟨h6, h7⟩ := hbr h2 b hb
              have := i4 q2 hq2' h3 h5 b hb2
              omega
          · rcases List.mem_cons.1 hq2 with hq2' | hq2'
            · rw [hq2'] at hb2 h3
              obtain ⟨h6, h7⟩ := hbr h3 b hb2
              have := i4 q hq' h2 h4 b hb
              omega
            · exact i5 q hq' q2 hq2' hqq h2 h3 h4 h5 b hb hb2
      cases hw : wantedR vals r.o with
      | false =>
        rw [hw, cond_false] at hx
        exact hgo undef h hx (by rw [nx_self H.nx]; exact H) (Nat.le_refl _) (fun _ b hb => by cases hb)
      | true =>
        rw [hw, cond_true] at hx
        split at hx
        · rename_i v h1 hx1
          cases hcl : clsOf P r.o with
          | effect => rw [isEff, hcl] at hne; cases hne
          | alloc =>
            obtain ⟨v2, ob, hn2, hbo, hlt⟩ := alloc_shape hcl hx1
            cases hn2
            refine hgo v _ hx (H.addNew hlt ob) (Nat.le_succ _) (fun _ b hb => ?_)
            rw [hbo] at hb; cases hb
            exact ⟨rfl, Nat.lt_succ_self _⟩
          | pure =>
            rcases quiet_exec (.inl hcl) hx1 with ⟨v2, hv2⟩ | hv2
            · cases hv2
              exact hgo v h hx (by rw [nx_self H.nx]; exact H) (Nat.le_refl _) (fun h2 => by rw [hcl] at h2; cases h2)
            · exact absurd rfl (hv2 _ _)
          | read =>
            rcases quiet_exec (.inr hcl) hx1 with ⟨v2, hv2⟩ | hv2
            · cases hv2
              exact hgo v h hx (by rw [nx_self H.nx]; exact H) (Nat.le_refl _) (fun h2 => by rw [hcl] at h2; cases h2)
            · exact absurd rfl (hv2 _ _)
        · cases hx

/-- ahead of a stage. -/
structure Pre (P : Program) (ops : Array Oper) (T0 : PT Value) (n K j : Nat) (vals : PT Value) (h : AH) (listed : Array Bool) (arr : Array Value) (w : World) (e0 e : Env) (B0 : Nat) : Prop where
  size : listed.size = ops.size
  closed : ∀ r ∈ rowsOf P ops, Lst listed r.i → ∀ p ∈ preds r.o, Lst listed p
  eff : ∀ r ∈ rowsOf P ops, isEff P r.o = true → (Lst listed r.i ↔ r.no < j)
  jK : j ≤ K
  arrn : arr.size = n
  wrote : ∀ r ∈ rowsOf P ops, Lst listed r.i → ∀ d, r.o.dst = some d → VRel e ((vals.get r.i).getD undef) (arr.getD d undef)
  kept : ∀ t, (∀ r ∈ rowsOf P ops, Lst listed r.i → r.o.dst ≠ some t) → VRel e ((T0.get t).getD undef) (arr.getD t undef)
  heap : HRel e B0 h w
  le : e0.le e
  done : ∀ r ∈ rowsOf P ops, Lst listed r.i → isEff P r.o = true ∨ r.e0 < j
  pend : ∀ r ∈ rowsOf P ops, clsOf P r.o = .alloc → r.e0 < j → ¬ Lst listed r.i → ∀ b, bl vals r.i = some b → e.loc b = none ∧ (∀ b' x, e.loc b' = some x → e.fam b' ≠ b) ∧ e0.nx ≤ b ∧ b < h.next
  dist : ∀ r ∈ rowsOf P ops, ∀ q ∈ rowsOf P ops, r.i ≠ q.i → clsOf P r.o = .alloc → clsOf P q.o = .alloc → r.e0 < j → q.e0 < j → ¬ Lst listed r.i → ¬ Lst listed q.i → ∀ b, bl vals r.i = some b → bl vals q.i ≠ some b

theorem rows_pairwise : (rowsOf P ops).Pairwise (fun a b => a.i ≠ b.i) := by
  rw [List.pairwise_iff_getElem]
  intro i j hi hj hij
  have h1 := (op_of_row (List.getElem?_eq_getElem hi)).2
  have h2 := (op_of_row (List.getElem?_eq_getElem hj)).2
  omega

theorem Pre.stage (R : Pre P ops T0 n K j vals h listed arr w e0 e B0) (hsz : (rowsOf P ops).length < 1000000) {vals' : PT Value} {h' : AH} (hx : stageR P X (rowsOf P ops) T0 j vals h = some (vals', h')) :
    ∃ e', RI P X ops T0 n K j vals' h' listed arr w e0 e' B0 := by
  unfold stageR at hx
  split at hx
  case h_2 => cases hx
  rename_i v2 h2 hA
  obtain ⟨hchk, hx⟩ := cond_some hx
  cases hx
  obtain ⟨i1, i2, i3, i4, i5⟩ := stageA_sim hsz _ _ _ _ _ _ hA (fun _ h => h) rows_pairwise R.heap
  have hsub := sub_nx e h'.next
  have hsame : ∀ r ∈ rowsOf P ops, (isEff P r.o = true ∨ r.e0 ≠ j) → vals'.get r.i = vals.get r.i := fun r hr hh => i1 r.i (fun q hq hqi => by rw [row_unique hq hr hqi]; exact hh)
  have hnx := R.heap.nx
  refine ⟨{ e with nx := h'.next }, R.size, R.closed, R.eff, R.jK, R.arrn, ?_, ?_, i2, ⟨Env.sub_trans R.le.sub hsub, ?_, R.le.new⟩, ?_, ?_, hchk⟩
  · intro r hr hL d hd
    rw [hsame r hr ((R.done r hr hL).imp id (fun h => by omega))]
    exact (R.wrote r hr hL d hd).monoS hsub
  · intro t ht
    exact (R.kept t ht).monoS hsub
  · have := R.le.nx
    show e0.nx ≤ h'.next
    omega
  · intro r hr hc hle hL b hb
    by_cases hlt : r.e0 < j
    · have hs := hsame r hr (.inr (by omega))
      rw [hs] at hb
      obtain ⟨p1, p2, p3, p4⟩ := R.pend r hr hc hlt hL b hb
      exact ⟨p1, p2, p3, by omega⟩
    · have := i4 r hr hc (by omega) b hb
      refine ⟨R.heap.new this.1, fun b' x hx => ?_, ?_, this.2⟩
      · have hfl := R.heap.famlt (show e.loc b' = some x from hx)
        show e.fam b' ≠ b
        omega
      · have := R.le.nx; omega
  · intro r hr q hq hne hc1 hc2 hl1 hl2 hL1 hL2 b hb1 hb2
    by_cases h1 : r.e0 < j
    · have hs1 := hsame r hr (.inr (by omega))
      rw [hs1] at hb1
      by_cases h2 : q.e0 < j
      · have hs2 := hsame q hq (.inr (by omega))
        rw [hs2] at hb2
        exact R.dist r hr q hq hne hc1 hc2 h1 h2 hL1 hL2 b hb1 hb2
      · have p4 := (R.pend r hr hc1 h1 hL1 b hb1).2.2.2
        have := i4 q hq hc2 (by omega) b hb2
        omega
    · by_cases h2 : q.e0 < j
      · have hs2 := hsame q hq (.inr (by omega))
        rw [hs2] at hb2
        have p4 := (R.pend q hq hc2 h2 hL2 b hb2).2.2.2
        have := i4 r hr hc1 (by omega) b hb1
        omega
      · exact i5 r hr q hq hne hc1 hc2 (by omega) (by omega) b hb1 hb2
end
end Go.AM

namespace Go.AM
open Go Go.RowKit

/-- what is asked of a run within. -/
def SubOK (P : Program) (B0 : Nat) (sub : AH → FuncId → List Value → Option (Value × AH)) : Prop :=
  ∀ (h : AH) (f : FuncId) (args : List Value) (v : Value) (h' : AH), sub h f args = some (v, h') → ∀ (e : Env) (w : World) (args' : Array Value), HRel e B0 h w → VsRel e args args'.toList →
    ∀ (c : Frame) (cs : List Frame), ∃ e' v' w', e.le e' ∧ Steps P (lone (Frame.enter P f args' .normal) (c :: cs) w) (lone (c.finish v') cs w') ∧ VRel e' v v' ∧ HRel e' B0 h' w' ∧ Below B0 w w'

def NosOK : List Row → Nat → Prop
  | [], _ => True
  | r :: l, k => r.no = k ∧ NosOK l (k + 1)

section
variable {P : Program} {X : FuncId → List Value → Option Value} {ops : Array Oper} {K n j : Nat} {T0 vals : PT Value} {h : AH} {listed : Array Bool} {arr : Array Value} {w : World} {e0 e : Env} {B0 : Nat}

theorem nos_filter : ∀ (l : List Row) (k : Nat), okNos P l k = true → NosOK (l.filter fun r => isEff P r.o) k
  | [], k, _ => trivial
  | r :: l, k, h => by
    simp only [okNos] at h
    cases he : isEff P r.o with
    | true =>
      rw [he, cond_true] at h
      simp only [Bool.and_eq_true, nbeq, decide_eq_true_eq] at h
      rw [List.filter_cons, he, if_pos rfl]
      exact ⟨h.1, nos_filter l _ h.2⟩
    | false =>
      rw [he, cond_false] at h
      rw [List.filter_cons, he, if_neg (by simp)]
      exact nos_filter l _ h

theorem NosOK.ge : ∀ {l : List Row} {k : Nat}, NosOK l k → ∀ r ∈ l, k ≤ r.no ∧ r.no < k + l.length
  | [], k, _, r, hr => by cases hr
  | a :: l, k, h, r, hr => by
    obtain ⟨h1, h2⟩ := h
    rcases List.mem_cons.1 hr with rfl | hr
    · simp; omega
    · have := NosOK.ge h2 r hr
      simp; omega

theorem NosOK.inj : ∀ {l : List Row} {k : Nat}, NosOK l k → ∀ r ∈ l, ∀ q ∈ l, r.no = q.no → r = q
  | [], k, _, r, hr => by cases hr
  | a :: l, k, h, r, hr => by
    intro q hq hrq
    obtain ⟨h1, h2⟩ := h
    rcases List.mem_cons.1 hr with hr' | hr' <;> rcases List.mem_cons.1 hq with hq' | hq'
    · rw [hr', hq']
    · have := NosOK.ge h2 q hq'; rw [hr'] at hrq; omega
    · have := NosOK.ge h2 r hr'; rw [hq'] at hrq; omega
    · exact NosOK.inj h2 r hr' q hq' hrq

/-- an effect is done on both sides. -/
theorem RI.effStep (G : Good P X) {sub : AH → FuncId → List Value → Option (Value × AH)} (hsub : SubOK P B0 sub) (R : RI P X ops T0 n K j vals h listed arr w e0 e B0) (hok : ∀ r ∈ rowsOf P ops, ROK P (rowsOf P ops) K r)
    {r : Row} (hr : r ∈ rowsOf P ops) (hS : ¬ Lst listed r.i) (hp : ∀ p ∈ preds r.o, Lst listed p) {v : Value} {h1 : AH} (hx : effR P X sub (rowsOf P ops) T0 r vals h = some (v, h1))
    {fr : Frame} (hm : fr.mode = .run) {rest : List Nat} {k : List Item} {cs : List Frame} :
    ∃ v' w' e', Steps P (lone (frAt fr arr ops (r.i :: rest) k) cs w) (lone (frAt fr (putArr arr r.o.dst v') ops rest k) cs w') ∧ e.le e' ∧ VRel e' v v' ∧ HRel e' B0 h1 w' ∧ Below B0 w w' := by
  have hri := row_mem hr
  have hwt := R.wanted hok hr hp
  have hev := R.evalR hok hr hS hp (fr := frAt fr arr ops (r.i :: rest) k) rfl
  unfold effR at hx
  cases hwv : wantedR vals r.o with
  | false =>
    rw [hwv] at hwt hx
    rw [cond_false] at hx
    cases hx
    exact ⟨undef, w, e, .one (step_skipped hm hri.2 hwt), Env.le_refl e, undef_rel e, R.heap, Below.refl _ _⟩
  | true =>
    rw [hwv] at hwt hx
    rw [cond_true] at hx
    have hnd : ∀ n, execA P X h (Go.AM.evalR (rowsOf P ops) T0 vals r) r.o = some n → (∀ d h2, n ≠ .defer d h2) → ∀ c, r.o.op ≠ .defer c := by
      intro n hn hne c hc
      obtain ⟨d, h2, rfl⟩ := op_defer hc hn
      exact hne d h2 rfl
    split at hx
    · rename_i v2 h2 hx2
      cases hx
      obtain ⟨e', hle, v', w', hrun, hvv, H', hb⟩ := exec_sim G R.heap hev hx2
      exact ⟨v', w', e', .one (step_value hm hri.2 hwt (hnd _ hx2 (fun d h2 hh => by cases hh)) hrun), hle, hvv, H', hb⟩
    · rename_i h2 hx2
      cases hx
      obtain ⟨e', hle, w', hrun, H', hb⟩ := exec_sim G R.heap hev hx2
      refine ⟨undef, w', e', .one ?_, hle, undef_rel e', H', hb⟩
      rw [← frAt_finish hri.2 undef]
      exact step_lone_go (by rw [step_wanted hm hri.2 hwt (hnd _ hx2 (fun d h2 hh => by cases hh))]; simp [stepG.apply, Sem.runT_eq, hrun])
    · rename_i f args h2 hx2
      obtain ⟨e1, hle1, args', w1, hrun, hvs, H1, hb1⟩ := exec_sim G R.heap hev hx2
      obtain ⟨e', v', w', hle, hst, hvv, H', hb⟩ := hsub h2 f args v h1 hx e1 w1 args' H1 hvs (frAt fr arr ops (r.i :: rest) k) cs
      rw [frAt_finish hri.2] at hst
      refine ⟨v', w', e', .head (step_lone_go ?_) hst, Env.le_trans hle1 hle, hvv, H', hb1.trans hb⟩
      rw [step_wanted hm hri.2 hwt (hnd _ hx2 (fun d h2 hh => by cases hh))]
      refine apply_enter (fun d b r s k hh => ?_) hrun
      simp [frAt] at hh
    · cases hx

/-- an effect's row: behind it the next stage begins. -/
theorem RI.effect (G : Good P X) {sub : AH → FuncId → List Value → Option (Value × AH)} (hsub : SubOK P B0 sub) (R : RI P X ops T0 n K j vals h listed arr w e0 e B0) (hok : ∀ r ∈ rowsOf P ops, ROK P (rowsOf P ops) K r)
    (hdn : ∀ r ∈ rowsOf P ops, ∀ d, r.o.dst = some d → d < n) (hsz : (rowsOf P ops).length < 1000000) (hnK : ∀ r ∈ rowsOf P ops, isEff P r.o = true → r.no < K) (hnI : ∀ r ∈ rowsOf P ops, ∀ q ∈ rowsOf P ops, isEff P r.o = true → isEff P q.o = true → r.no = q.no → r = q)
    {r : Row} (hr : r ∈ rowsOf P ops) (he : isEff P r.o = true) (hS : ¬ Lst listed r.i) (hp : ∀ p ∈ preds r.o, Lst listed p) :
    r.no = j ∧ ∀ {v : Value} {h1 : AH}, effR P X sub (rowsOf P ops) T0 r vals h = some (v, h1) → ∀ {fr : Frame}, fr.mode = .run → ∀ {rest : List Nat} {k : List Item} {cs : List Frame},
    ∃ arr' w' e', Steps P (lone (frAt fr arr ops (r.i :: rest) k) cs w) (lone (frAt fr arr' ops rest k) cs w') ∧ Pre P ops T0 n K (j + 1) (PT.set 64 vals r.i v) h1 (listed.setIfInBounds r.i true) arr' w' e0 e' B0 ∧ Below B0 w w' := by
  have hri := row_mem hr
  have hlt : r.i < listed.size := by
    rw [R.size]
    exact (Array.getElem?_eq_some_iff.1 hri.2).1
  have h1 := R.early hok r.i r rfl hr hp
  have hno : r.no = j := by
    have h2 := (hok r hr).eff he
    have h3 : ¬ r.no < j := fun hh => hS ((R.eff r hr he).2 hh)
    omega
  refine ⟨hno, ?_⟩
  intro v h1 hx fr hm rest k cs
  obtain ⟨v', w', e', hst, hle, hvv, H', hb⟩ := R.effStep G hsub hok hr hS hp hx hm (rest := rest) (k := k) (cs := cs)
  have hfar : r.i < far := by have := row_lt hr; unfold far; omega
  have hget : ∀ i, (PT.set 64 vals r.i v).get i = if i = r.i then some v else vals.get i := fun i => PT.get_set _ _ _ _ hfar
  have hblo : ∀ i, i ≠ r.i → bl (PT.set 64 vals r.i v) i = (vals.get i).bind blockOf := fun i hi => by unfold bl; rw [hget, if_neg hi]
  have hnx : h.next ≤ h1.next := by rw [← R.heap.nx, ← H'.nx]; exact hle.nx
  refine ⟨_, w', e', hst, ⟨by simp [R.size], ?_, ?_, ?_, by rw [putArr_size]; exact R.arrn, ?_, ?_, H', Env.le_trans R.le hle, ?_, ?_, ?_⟩, hb⟩
  · intro q hq hL p hpp
    rw [lst_set] at hL ⊢
    rcases hL with ⟨hqi, _⟩ | hL
    · rw [row_unique hq hr hqi] at hpp
      exact .inr (hp p hpp)
    · exact .inr (R.closed q hq hL p hpp)
  · intro q hq hqe
    rw [lst_set]
    constructor
    · rintro (⟨hqi, _⟩ | hh)
      · rw [row_unique hq hr hqi]; omega
      · have := (R.eff q hq hqe).1 hh; omega
    · intro hh
      by_cases hlt2 : q.no < j
      · exact .inr ((R.eff q hq hqe).2 hlt2)
      · have : q = r := hnI q hq r hr hqe he (by omega)
        exact .inl ⟨by rw [this], hlt⟩
  · have := hnK r hr he; omega
  · intro q hq hL d hd
    rw [hget]
    rw [lst_set] at hL
    by_cases hqi : q.i = r.i
    · have := row_unique hq hr hqi
      subst this
      rw [if_pos rfl, hd, putArr_same (by rw [R.arrn]; exact hdn q hq d hd)]
      exact hvv
    · rcases hL with ⟨h2, _⟩ | hL
      · exact absurd h2 hqi
      · rw [if_neg hqi, putArr_other ((hok q hq).dst d hd r hr (fun h => hqi h.symm))]
        exact (R.wrote q hq hL d hd).mono hle
  · intro t ht
    have h2 : r.o.dst ≠ some t := ht r hr (lst_set.2 (.inl ⟨rfl, hlt⟩))
    rw [putArr_other h2]
    exact (R.kept t (fun q hq hL => ht q hq (lst_set.2 (.inr hL)))).mono hle
  · intro q hq hL
    rw [lst_set] at hL
    rcases hL with ⟨hqi, _⟩ | hL
    · rw [row_unique hq hr hqi]; exact .inl he
    · cases hqe : isEff P q.o with
      | true => exact .inl rfl
      | false =>
        have := R.early hok q.i q rfl hq (R.closed q hq hL)
        exact .inr (by omega)
  · intro q hq hc hqe hL b hb
    have hL' : ¬ Lst listed q.i := fun hh => hL (lst_set.2 (.inr hh))
    have hne : q.i ≠ r.i := fun hh => hL (lst_set.2 (.inl ⟨hh, hlt⟩))
    rw [hblo q.i hne] at hb
    obtain ⟨p1, p2, p3, p4⟩ := R.pend q hq hc (by omega) hL' b hb
    obtain ⟨q1, q2⟩ := Pend.le hle (by rw [R.heap.nx]; exact p4) ⟨p1, p2⟩
    exact ⟨q1, q2, p3, by omega⟩
  · intro q hq q2 hq2 hne hc hc2 hl1 hl2 hL hL2 b hb hb2
    have hL' : ¬ Lst listed q.i := fun hh => hL (lst_set.2 (.inr hh))
    have hL2' : ¬ Lst listed q2.i := fun hh => hL2 (lst_set.2 (.inr hh))
    have hn1 : q.i ≠ r.i := fun hh => hL (lst_set.2 (.inl ⟨hh, hlt⟩))
    have hn2 : q2.i ≠ r.i := fun hh => hL2 (lst_set.2 (.inl ⟨hh, hlt⟩))
    rw [hblo q.i hn1] at hb
    rw [hblo q2.i hn2] at hb2
    exact R.dist q hq q2 hq2 hne hc hc2 (by omega) (by omega) hL' hL2' b hb hb2
end
end Go.AM

namespace Go.AM
open Go Go.RowKit

section
variable {P : Program} {X : FuncId → List Value → Option Value} {ops : Array Oper} {K n j : Nat} {T0 vals : PT Value} {h : AH} {listed : Array Bool} {arr : Array Value} {w : World} {e0 e : Env} {B0 : Nat}

theorem binds_any {md : Region.Mode} {ed : Edge} (h : Region.binds .any ed = true) : Region.binds md ed = true := by
  unfold Region.binds at *
  cases hg : ed.ground <;> rw [hg] at h <;> first | rfl | (cases h; done) | (simp at h; done)

theorem okLin_ready {md : Region.Mode} : ∀ (c done : List Nat), okLin md ops c done = true → (∀ d ∈ done, Lst listed d) → (∃ x ∈ c, ¬ Lst listed x) →
    ∃ x o, ¬ Lst listed x ∧ ops[x]? = some o ∧ ∀ ed ∈ o.after.toList, Region.binds md ed = true → Lst listed ed.on
  | [], done, _, _, hx => by obtain ⟨x, hx, _⟩ := hx; cases hx
  | i :: c, done, h, hd, hx => by
    simp only [okLin, Bool.and_eq_true] at h
    by_cases hi : Lst listed i
    · refine okLin_ready c (i :: done) h.2 (fun d hdm => ?_) ?_
      · rcases List.mem_cons.1 hdm with rfl | hdm
        · exact hi
        · exact hd d hdm
      · obtain ⟨x, hxm, hxn⟩ := hx
        rcases List.mem_cons.1 hxm with rfl | hxm
        · exact absurd hi hxn
        · exact ⟨x, hxm, hxn⟩
    · have h1 := h.1
      split at h1
      · rename_i o ho
        refine ⟨i, o, hi, ho, fun ed hed hb => ?_⟩
        have := List.all_eq_true.1 h1 ed hed
        rw [hb] at this
        simp only [Bool.not_true, Bool.false_or] at this
        exact hd _ (any_beq' this)
      · cases h1

theorem getD_true {i : Nat} (h : listed.getD i false = true) : Lst listed i := by
  unfold Lst
  rw [Array.getD_eq_getD_getElem?] at h
  cases hq : listed[i]? with
  | none => rw [hq] at h; cases h
  | some b => rw [hq] at h; simp only [Option.getD_some] at h; rw [h]

theorem getD_of_lst {i : Nat} (h : Lst listed i) : listed.getD i false = true := by
  unfold Lst at h
  rw [Array.getD_eq_getD_getElem?, h]; rfl

theorem ready_mem {md : Region.Mode} {i : Nat} (hsz : listed.size = ops.size) : i ∈ Region.ready md ops listed ↔ i < ops.size ∧ ¬ Lst listed i ∧ ∃ o, ops[i]? = some o ∧ ∀ ed ∈ o.after.toList, Region.binds md ed = true → Lst listed ed.on := by
  unfold Region.ready
  rw [List.mem_filter, List.mem_range]
  constructor
  · rintro ⟨h1, h2⟩
    simp only [Bool.and_eq_true, Bool.not_eq_true'] at h2
    refine ⟨h1, fun hh => ?_, ?_⟩
    · have := h2.1
      unfold Lst at hh
      rw [Array.getD_eq_getD_getElem?, hh] at this; cases this
    · cases ho : ops[i]? with
      | none => have := h2.2; rw [ho] at this; cases this
      | some o =>
        have h3 := h2.2
        rw [ho] at h3
        simp only [Option.map_some, Option.getD_some] at h3
        refine ⟨o, rfl, fun ed hed hb => ?_⟩
        rw [← Array.all_toList] at h3
        have := List.all_eq_true.1 h3 ed hed
        rw [hb] at this
        simp only [Bool.not_true, Bool.false_or] at this
        exact getD_true this
  · rintro ⟨h1, h2, o, ho, h3⟩
    refine ⟨h1, ?_⟩
    simp only [Bool.and_eq_true, Bool.not_eq_true']
    constructor
    · rw [Array.getD_eq_getD_getElem?]
      cases hq : listed[i]? with
      | none => rw [Array.getElem?_eq_none_iff] at hq; omega
      | some b =>
        cases b with
        | false => rfl
        | true => exact absurd hq h2
    · rw [ho]
      simp only [Option.map_some, Option.getD_some]
      rw [← Array.all_toList]
      refine List.all_eq_true.2 (fun ed hed => ?_)
      cases hb : Region.binds md ed with
      | false => rfl
      | true => simp only [Bool.not_true, Bool.false_or]; exact getD_of_lst (h3 ed hed hb)

theorem region_go (G : Good P X) {sub : AH → FuncId → List Value → Option (Value × AH)} (hsub : SubOK P B0 sub) (hok : ∀ r ∈ rowsOf P ops, ROK P (rowsOf P ops) K r)
    (hdn : ∀ r ∈ rowsOf P ops, ∀ d, r.o.dst = some d → d < n) (hsz : (rowsOf P ops).length < 1000000) (hnK : ∀ r ∈ rowsOf P ops, isEff P r.o = true → r.no < K) (hnI : ∀ r ∈ rowsOf P ops, ∀ q ∈ rowsOf P ops, isEff P r.o = true → isEff P q.o = true → r.no = q.no → r = q)
    {md : Region.Mode} {c : List Nat} (hc : okOrder md ops c = true) {fr : Frame} (hm : fr.mode = .run) {k : List Item} {cs : List Frame} {valsF : PT Value} {hF : AH} :
    ∀ (fuel t : Nat) (U : List Nat) (listed : Array Bool) (effs : List Row) (j : Nat) (vals : PT Value) (h : AH) (arr : Array Value) (w : World) (e : Env), RI P X ops T0 n K j vals h listed arr w e0 e B0 →
      NosOK effs j → (∀ q ∈ effs, q ∈ rowsOf P ops ∧ isEff P q.o = true) → (∀ q ∈ rowsOf P ops, isEff P q.o = true → j ≤ q.no → q ∈ effs) → regionR P X sub (rowsOf P ops) T0 effs vals h = some (valsF, hF) →
      (∀ i, i < ops.size → ¬ Lst listed i → i ∈ U) → U.length ≤ fuel →
      ∃ arrF wF eF jF listedF, Steps P (lone (frAt fr arr ops (Region.linearise.go md ops fuel t listed []) k) cs w) (lone (frAt fr arrF ops [] k) cs wF) ∧ RI P X ops T0 n K jF valsF hF listedF arrF wF e0 eF B0 ∧
        (∀ i, i < ops.size → Lst listedF i) ∧ Below B0 w wF := by
  have hall : ∀ (fuel t : Nat) (listed : Array Bool) (effs : List Row) (j : Nat) (vals : PT Value) (h : AH) (arr : Array Value) (w : World) (e : Env), RI P X ops T0 n K j vals h listed arr w e0 e B0 →
      NosOK effs j → (∀ q ∈ effs, q ∈ rowsOf P ops ∧ isEff P q.o = true) → regionR P X sub (rowsOf P ops) T0 effs vals h = some (valsF, hF) → (∀ i, i < ops.size → Lst listed i) →
      ∃ arrF wF eF jF listedF, Steps P (lone (frAt fr arr ops (Region.linearise.go md ops fuel t listed []) k) cs w) (lone (frAt fr arrF ops [] k) cs wF) ∧ RI P X ops T0 n K jF valsF hF listedF arrF wF e0 eF B0 ∧
        (∀ i, i < ops.size → Lst listedF i) ∧ Below B0 w wF := by
    intro fuel t listed effs j vals h arr w e R hN hE hreg hL
    have heffs : effs = [] := by
      cases effs with
      | nil => rfl
      | cons q l =>
        have hq := hE q (by simp)
        have hlt := (R.eff q hq.1 hq.2).1 (hL _ (Array.getElem?_eq_some_iff.1 (row_mem hq.1).2).1)
        have := hN.1
        omega
    subst heffs
    cases hreg
    have hgo : Region.linearise.go md ops fuel t listed [] = [] := by
      cases fuel with
      | zero => rfl
      | succ fuel =>
        have hr : Region.ready md ops listed = [] := by
          rw [List.eq_nil_iff_forall_not_mem]
          intro i hi
          have := (ready_mem R.size).1 hi
          exact this.2.1 (hL i this.1)
        simp only [Region.linearise.go]
        change (match (Region.ready md ops listed)[t % (Region.ready md ops listed).length]? with
          | some i => Region.linearise.go md ops fuel (t / (Region.ready md ops listed).length) (listed.setIfInBounds i true) [i]
          | none => [].reverse) = []
        rw [hr]; rfl
    rw [hgo]
    exact ⟨arr, w, e, j, listed, Steps.refl _ _, R, hL, Below.refl _ _⟩
  intro fuel
  induction fuel with
  | zero =>
    intro t U listed effs j vals h arr w e R hN hE hA hreg hU hlen
    refine hall 0 t listed effs j vals h arr w e R hN hE hreg (fun i hi => Classical.byContradiction fun hn => ?_)
    have := hU i hi hn
    have hU0 : U = [] := List.eq_nil_of_length_eq_zero (by omega)
    rw [hU0] at this; cases this
  | succ fuel ih =>
    intro t U listed effs j vals h arr w e R hN hE hA hreg hU hlen
    by_cases hL : ∀ i, i < ops.size → Lst listed i
    · exact hall (fuel + 1) t listed effs j vals h arr w e R hN hE hreg hL
    · have hex : ∃ i, i < ops.size ∧ ¬ Lst listed i := by
        refine Classical.byContradiction fun hn => hL (fun i hi => Classical.byContradiction fun h2 => hn ⟨i, hi, h2⟩)
      obtain ⟨i0, hi0, hn0⟩ := hex
      simp only [okOrder, Bool.and_eq_true] at hc
      have hi0c : i0 ∈ c := any_beq' (List.all_eq_true.1 hc.2 i0 (List.mem_range.2 hi0))
      obtain ⟨x, o, hx1, hx2, hx3⟩ := okLin_ready (listed := listed) c [] hc.1 (fun d hd => by cases hd) ⟨i0, hi0c, hn0⟩
      have hxr : x ∈ Region.ready md ops listed := (ready_mem R.size).2 ⟨(Array.getElem?_eq_some_iff.1 hx2).1, hx1, o, hx2, hx3⟩
      have hpos : 0 < (Region.ready md ops listed).length := List.length_pos_of_mem hxr
      obtain ⟨i, hi⟩ : ∃ i, (Region.ready md ops listed)[t % (Region.ready md ops listed).length]? = some i := ⟨_, List.getElem?_eq_getElem (Nat.mod_lt _ hpos)⟩
      have him := List.mem_of_getElem? hi
      obtain ⟨hilt, hiS, o', ho', hedges⟩ := (ready_mem R.size).1 him
      obtain ⟨r, hr, hro, hri⟩ := rows_of_op (P := P) ho'
      have hrm := List.mem_of_getElem? hr
      subst hri
      have hp : ∀ p ∈ preds r.o, Lst listed p := by
        intro p hpp
        unfold preds at hpp
        obtain ⟨ed, hed, rfl⟩ := List.mem_map.1 hpp
        obtain ⟨h1, h2⟩ := List.mem_filter.1 hed
        rw [hro] at h1
        exact hedges ed h1 (binds_any h2)
      have hgo : Region.linearise.go md ops (fuel + 1) t listed [] = r.i :: Region.linearise.go md ops fuel (t / (Region.ready md ops listed).length) (listed.setIfInBounds r.i true) [] := by
        simp only [Region.linearise.go]
        change (match (Region.ready md ops listed)[t % (Region.ready md ops listed).length]? with
          | some i => Region.linearise.go md ops fuel (t / (Region.ready md ops listed).length) (listed.setIfInBounds i true) [i]
          | none => [].reverse) = _
        rw [hi]
        simp only []
        rw [linearise_go_acc, List.reverse_singleton, List.singleton_append]
      rw [hgo]
      have hiU := hU r.i hilt hiS
      have hU' : ∀ i, i < ops.size → ¬ Lst (listed.setIfInBounds r.i true) i → i ∈ U.erase r.i := by
        intro i2 hi2 hn2
        have h1 : ¬ Lst listed i2 := fun hh => hn2 (lst_set.2 (.inr hh))
        have h2 : i2 ≠ r.i := fun hh => hn2 (lst_set.2 (.inl ⟨hh, by rw [R.size]; exact hilt⟩))
        exact (List.mem_erase_of_ne h2).2 (hU i2 hi2 h1)
      have hlen' : (U.erase r.i).length ≤ fuel := by rw [List.length_erase_of_mem hiU]; omega
      cases he : isEff P r.o with
      | false =>
        obtain ⟨arr', w', e', hst, R', hb⟩ := R.quiet G hok hdn hrm he hiS hp hm (k := k) (cs := cs) (rest := Region.linearise.go md ops fuel (t / (Region.ready md ops listed).length) (listed.setIfInBounds r.i true) [])
        obtain ⟨arrF, wF, eF, jF, listedF, hs, RF, hLF, hbF⟩ := ih _ (U.erase r.i) _ effs j vals h arr' w' e' R' hN hE hA hreg hU' hlen'
        exact ⟨arrF, wF, eF, jF, listedF, .head hst hs, RF, hLF, hb.trans hbF⟩
      | true =>
        obtain ⟨hno, hstep⟩ := R.effect G hsub hok hdn hsz hnK hnI hrm he hiS hp
        cases effs with
        | nil => have := hA r hrm he (by omega); cases this
        | cons r0 more =>
          have hr0 : r0 = r := by
            have hm1 := hA r hrm he (by omega)
            have h0 := hN.1
            have := hE r0 (by simp)
            exact hnI r0 this.1 r hrm this.2 he (by omega)
          subst hr0
          simp only [regionR] at hreg
          split at hreg
          case h_2 => cases hreg
          rename_i v h1 heff
          split at hreg
          case h_2 => cases hreg
          rename_i vals2 h2 hstage
          obtain ⟨arr', w', e', hst, Rp, hb⟩ := hstep heff hm (k := k) (cs := cs) (rest := Region.linearise.go md ops fuel (t / (Region.ready md ops listed).length) (listed.setIfInBounds r0.i true) [])
          rw [hno] at hstage
          obtain ⟨e2, R2⟩ := Rp.stage hsz hstage
          obtain ⟨arrF, wF, eF, jF, listedF, hs, RF, hLF, hbF⟩ := ih _ (U.erase r0.i) _ more (j + 1) vals2 h2 arr' w' e2 R2 hN.2 (fun q hq => hE q (by simp [hq]))
            (fun q hq hqe hle => by
              have := hA q hq hqe (by omega)
              rcases List.mem_cons.1 this with rfl | hqm
              · omega
              · exact hqm) hreg hU' hlen'
          exact ⟨arrF, wF, eF, jF, listedF, hst.trans hs, RF, hLF, hb.trans hbF⟩
end
end Go.AM

namespace Go.AM
open Go Go.RowKit

section
variable {P : Program} {X : FuncId → List Value → Option Value} {ops : Array Oper} {e : Env} {B0 : Nat} {h : AH} {w : World}

theorem putAll_get {n : Nat} (hn : n < 1000000) {vals : PT Value} : ∀ (l : List Row) (T T' : PT Value), putAll n l vals T = some T' → l.Pairwise (fun a b => a.i ≠ b.i) →
    (∀ t, (∀ r ∈ l, r.o.dst ≠ some t) → T'.get t = T.get t) ∧ (∀ r ∈ l, ∀ d, r.o.dst = some d → (∀ q ∈ l, q.i ≠ r.i → q.o.dst ≠ some d) → T'.get d = some ((vals.get r.i).getD undef))
  | [], T, T', hx, _ => by
    cases hx
    exact ⟨fun _ _ => rfl, fun r hr => by cases hr⟩
  | r :: l, T, T', hx, hpw => by
    have hpw' := List.pairwise_cons.1 hpw
    simp only [putAll] at hx
    split at hx
    case h_2 => cases hx
    rename_i T1 hT1
    obtain ⟨i1, i2⟩ := putAll_get hn l T1 T' hx hpw'.2
    refine ⟨fun t ht => ?_, fun q hq d hd hu => ?_⟩
    · rw [i1 t (fun q hq => ht q (by simp [hq]))]
      have hr := ht r (by simp)
      cases hd : r.o.dst with
      | none => rw [hd] at hT1; cases hT1; rfl
      | some d =>
        rw [hd] at hT1 hr
        simp only [putT] at hT1
        obtain ⟨hc, hT1⟩ := cond_some hT1
        cases hT1
        simp only [nblt, decide_eq_true_eq] at hc
        rw [PT.get_set _ _ _ _ (by unfold far; omega), if_neg (fun hh => hr (by rw [hh]))]
    · rcases List.mem_cons.1 hq with hq' | hq'
      · subst hq'
        rw [i1 d (fun q2 hq2 => hu q2 (by simp [hq2]) (fun hh => hpw'.1 q2 hq2 hh.symm))]
        rw [hd] at hT1
        simp only [putT] at hT1
        obtain ⟨hc, hT1⟩ := cond_some hT1
        cases hT1
        simp only [nblt, decide_eq_true_eq] at hc
        rw [PT.get_set _ _ _ _ (by unfold far; omega), if_pos rfl]
      · exact i2 q hq' d hd (fun q2 hq2 hne => hu q2 (by simp [hq2]) hne)

theorem schedule_eq (h : okOrders P ops = true) (t : Nat) : ∃ md c t', okOrder md ops c = true ∧ Region.schedule (P.follows .mixedOrders) ops t = Region.linearise md ops t' := by
  unfold okOrders at h
  unfold Region.schedule
  cases hc : (P.follows .mixedOrders || !(Region.departs ops)) with
  | true =>
    rw [hc, cond_true] at h
    exact ⟨.any, _, t, h, by simp⟩
  | false =>
    rw [hc, cond_false] at h
    simp only [Bool.and_eq_true] at h
    by_cases ht : (t % 2 == 0) = true
    · exact ⟨.text, _, t / 2, h.1, by simp [ht]⟩
    · exact ⟨.gc, _, t / 2, h.2, by simp [ht]⟩

theorem draw_sim (G : Good P X) {sub : AH → FuncId → List Value → Option (Value × AH)} (hsub : SubOK P B0 sub) {s s1 : AS} {fr' : Frame} {frs cs : List Frame} (F : FRel e s.fr fr') (Fs : FsRel e s.callers frs) (H : HRel e B0 s.h w) (hm : s.fr.mode = .run)
    {id : Nat} {ops : Array Oper} {k : List AItem} {T : PT Value} {h1 : AH} (htodo : s.fr.todo = .code (.region id ops true) :: k) (hx : drawR P X sub ops s.fr.n s.fr.tmps s.h = some (T, h1))
    (hs1 : s1 = { s with fr := { s.fr with tmps := T, todo := k }, h := h1 }) : Goes P B0 e cs fr' frs w s1 := by
  subst hs1
  have hm' := mode_run F hm
  have Ft := F.todo
  rw [htodo] at Ft
  generalize htd : fr'.todo = td at Ft
  cases Ft with
  | @cons _ _ _ k' q1 q2 =>
    cases q1
    have hq := frame_atR hm' htd
    unfold drawR at hx
    simp only [] at hx
    obtain ⟨hc, hx⟩ := cond_some hx
    simp only [Bool.and_eq_true, nblt, decide_eq_true_eq] at hc
    obtain ⟨⟨hokr, hsz⟩, hdn⟩ := hc
    unfold okRows at hokr
    simp only [Bool.and_eq_true] at hokr
    obtain ⟨⟨hrows, hnos⟩, hord⟩ := hokr
    split at hx
    case h_2 => cases hx
    rename_i vals0 h0 hst0
    split at hx
    case h_2 => cases hx
    rename_i valsF hF hreg
    obtain ⟨T2, hput, hx⟩ := opt_map_some hx
    cases hx
    generalize hK : ops.toList.countP (isEff P) = K at hrows
    have hok : ∀ r ∈ rowsOf P ops, ROK P (rowsOf P ops) K r := fun r hr => okRow_spec (List.all_eq_true.1 hrows r hr)
    have hdn' : ∀ r ∈ rowsOf P ops, ∀ d, r.o.dst = some d → d < s.fr.n := by
      intro r hr d hd
      have := List.all_eq_true.1 hdn r hr
      rw [hd] at this
      simpa [nblt] using this
    have hnf := nos_filter _ _ hnos
    have hlenK : ((rowsOf P ops).filter fun r => isEff P r.o).length ≤ K := by
      rw [← hK, ← List.countP_eq_length_filter]
      have : ∀ (os : List Oper) (ns : List (Nat × Nat × Nat)) (i : Nat), (mkRows os ns i).countP (fun r => isEff P r.o) = os.countP (isEff P) := by
        intro os
        induction os with
        | nil => intro ns i; cases ns <;> rfl
        | cons o os ih =>
          intro ns i
          cases ns with
          | nil => simp only [mkRows, List.countP_cons, ih]
          | cons a ns => obtain ⟨a, b, c⟩ := a; simp only [mkRows, List.countP_cons, ih]
      unfold rowsOf
      rw [this]; exact Nat.le_refl _
    have hnK : ∀ r ∈ rowsOf P ops, isEff P r.o = true → r.no < K := by
      intro r hr he
      have := NosOK.ge hnf r (List.mem_filter.2 ⟨hr, he⟩)
      omega
    have hnI : ∀ r ∈ rowsOf P ops, ∀ q ∈ rowsOf P ops, isEff P r.o = true → isEff P q.o = true → r.no = q.no → r = q :=
      fun r hr q hq he he2 hrq => NosOK.inj hnf r (List.mem_filter.2 ⟨hr, he⟩) q (List.mem_filter.2 ⟨hq, he2⟩) hrq
    have hL0 : ∀ i, ¬ Lst (Array.replicate ops.size false) i := by
      intro i hh
      unfold Lst at hh
      rw [Array.getElem?_replicate] at hh
      split at hh <;> cases hh
    have hpre : Pre P ops s.fr.tmps s.fr.n K 0 .leaf s.h (Array.replicate ops.size false) fr'.tmps { w with drawn := w.drawn + 1 } e e B0 := by
      refine ⟨by simp, fun r _ hL => absurd hL (hL0 _), fun r _ _ => ⟨fun hL => absurd hL (hL0 _), fun hh => by omega⟩, Nat.zero_le _, F.tmps.1, fun r _ hL => absurd hL (hL0 _), fun t _ => F.tmps.2 t, H.drew, Env.le_refl e, fun r _ hL => absurd hL (hL0 _),
        fun r _ _ hh => by omega, fun r _ q _ _ _ _ hh => by omega⟩
    obtain ⟨e1, R⟩ := hpre.stage hsz hst0
    obtain ⟨md, c, t', hco, hsched⟩ := schedule_eq hord (w.tape w.drawn (.order fr'.fn id))
    have hdr := stepR_region_draw (P := P) (b := fr') (a := ⟨fr'.tmps, fr'.defers⟩) (id := id) (ops := ops) (k := k') (cs := frs ++ cs) (w := w)
    rw [← hq, ← frAt_eq hm', hsched] at hdr
    obtain ⟨arrF, wF, eF, jF, listedF, hs, RF, hLF, hbF⟩ := region_go G hsub hok hdn' hsz hnK hnI hco hm' (k := k') (cs := frs ++ cs) ops.size t' (List.range ops.size) (Array.replicate ops.size false) _ 0 _ _ _ _ _ R hnf
      (fun q hq => List.mem_filter.1 hq) (fun q hq he _ => List.mem_filter.2 ⟨hq, he⟩) hreg (fun i hi _ => List.mem_range.2 hi) (by simp)
    have hend := stepR_region_end (P := P) (b := fr') (a := ⟨arrF, fr'.defers⟩) (ops := ops) (k := k') (cs := frs ++ cs) (w := wF)
    rw [← frAt_eq hm'] at hend
    obtain ⟨p1, p2⟩ := putAll_get F.small _ _ _ hput rows_pairwise
    refine ⟨eF, _, frs, wF, RF.le, .head hdr (hs.trans (.one hend)), ⟨F.fn, F.small, ⟨RF.arrn, fun t => ?_⟩, q2.mono RF.le, F.defers.mono RF.le, ?_, F.kind, F.round.mono RF.le⟩, Fs.mono RF.le, RF.heap, ?_⟩
    · by_cases ht : ∀ r ∈ rowsOf P ops, r.o.dst ≠ some t
      · rw [p1 t ht]
        exact RF.kept t (fun r hr _ => ht r hr)
      · have : ∃ r, r ∈ rowsOf P ops ∧ r.o.dst = some t := Classical.byContradiction fun hn => ht fun r hr hd => hn ⟨r, hr, hd⟩
        obtain ⟨r, hr, hd⟩ := this
        rw [p2 r hr t hd ((hok r hr).dst t hd)]
        exact RF.wrote r hr (hLF _ (Array.getElem?_eq_some_iff.1 (row_mem hr).2).1) t hd
    · show ModeRel eF s.fr.mode .run
      rw [hm]; exact .run
    · have hb0 : Below B0 w { w with drawn := w.drawn + 1 } := ⟨rfl, rfl, rfl, Nat.le_refl _, fun _ _ => rfl⟩
      exact hb0.trans hbF

/-! ## runs -/
def subA (P : Program) (X : FuncId → List Value → Option Value) (n : Nat) : AH → FuncId → List Value → Option (Value × AH) := fun h f args => match enterA P f args .normal with
  | some fr => answerOf P f (runA P X n { fr, callers := [], h })
  | none => none

theorem step_sim (G : Good P X) {sub : AH → FuncId → List Value → Option (Value × AH)} (hsub : SubOK P B0 sub) {s s1 : AS} {fr' : Frame} {frs cs : List Frame} (F : FRel e s.fr fr') (Fs : FsRel e s.callers frs) (H : HRel e B0 s.h w)
    (hx : stepA P X sub s = some s1) : Goes P B0 e cs fr' frs w s1 := by
  by_cases hm : s.fr.mode = .run
  · exact run_sim G F Fs H hm hx (fun id ops k T h1 htodo hd hs1 => draw_sim G hsub F Fs H hm htodo hd hs1)
  · exact unwind_sim G F Fs H hm hx

theorem answer_sim {f : FuncId} {s : AS} {v : Value} {h' : AH} {fr' : Frame} {frs : List Frame} (F : FRel e s.fr fr') (Fs : FsRel e s.callers frs) (H : HRel e B0 s.h w) (hx : answerOf P f s = some (v, h')) :
    frs = [] ∧ h' = s.h ∧ fr'.fn = f ∧ ∃ v', fr'.leaving P w (.returned v') ∧ VRel e v v' := by
  unfold answerOf at hx
  split at hx
  case h_2 => cases hx
  rename_i hk
  obtain ⟨hc, hx⟩ := cond_some hx
  obtain ⟨v2, hv, hx⟩ := opt_map_some hx
  cases hx
  simp only [Bool.and_eq_true, nbeq, decide_eq_true_eq] at hc
  have hend := hc.1
  unfold isEnd at hend
  split at hend
  case h_2 => cases hend
  rename_i hmode hdef hcal
  rw [hcal] at Fs
  cases Fs
  obtain ⟨fn, v', hfn, hres, hV⟩ := result_sim (P := P) H F hv
  refine ⟨rfl, rfl, by rw [F.fn]; exact hc.2, v', ⟨?_, ?_, by rw [F.kind]; exact hk, fn, hfn, hres⟩, hV⟩
  · have := F.mode
    rw [hmode] at this
    generalize fr'.mode = z at this
    cases this; rfl
  · have := F.defers
    rw [hdef] at this
    exact this.nil_left

theorem runA_step {n : Nat} {s s2 : AS} (hE : isEnd s = false) (hs : stepA P X (subA P X n) s = some s2) : runA P X (n + 1) s = runA P X n s2 := by
  have h1 : runA P X (n + 1) s = cond (isEnd s) s (match stepA P X (subA P X n) s with | some s' => runA P X n s' | none => s) := rfl
  rw [h1, hE, hs]; rfl

theorem runA_stuck {n : Nat} {s : AS} (hE : isEnd s = false) (hs : stepA P X (subA P X n) s = none) : runA P X (n + 1) s = s := by
  have h1 : runA P X (n + 1) s = cond (isEnd s) s (match stepA P X (subA P X n) s with | some s' => runA P X n s' | none => s) := rfl
  rw [h1, hE, hs]; rfl

theorem runA_end {n : Nat} {s : AS} (hE : isEnd s = true) : runA P X (n + 1) s = s := by
  have h1 : runA P X (n + 1) s = cond (isEnd s) s (match stepA P X (subA P X n) s with | some s' => runA P X n s' | none => s) := rfl
  rw [h1, hE]; rfl

theorem run_sound (G : Good P X) : ∀ (n : Nat) (s : AS) (e : Env) (fr' : Frame) (frs cs : List Frame) (w : World), FRel e s.fr fr' → FsRel e s.callers frs → HRel e B0 s.h w → Goes P B0 e cs fr' frs w (runA P X n s)
  | 0, s, e, fr', frs, cs, w, F, Fs, H => ⟨e, fr', frs, w, Env.le_refl e, Steps.refl _ _, F, Fs, H, Below.refl _ _⟩
  | n + 1, s, e, fr', frs, cs, w, F, Fs, H => by
    have hself : Goes P B0 e cs fr' frs w s := ⟨e, fr', frs, w, Env.le_refl e, Steps.refl _ _, F, Fs, H, Below.refl _ _⟩
    cases hE : isEnd s with
    | true => rw [runA_end hE]; exact hself
    | false =>
      have hsub : SubOK P B0 (subA P X n) := by
        intro h f args v h' hx e w args' H hV c cs
        unfold subA at hx
        split at hx
        case h_2 => cases hx
        rename_i fr hfr
        obtain ⟨Fe, _⟩ := enter_sim hV hfr
        obtain ⟨e', fr1, frs1, w1, hle, hst, F1, Fs1, H1, hb⟩ := run_sound G n { fr, callers := [], h } e _ [] (c :: cs) w Fe .nil H
        obtain ⟨rfl, rfl, hfn, v', hlv, hV'⟩ := answer_sim (P := P) F1 Fs1 H1 hx
        exact ⟨e', v', w1, hle, hst.trans (.one (step_leave_returned hlv)), hV', H1, hb⟩
      cases hs : stepA P X (subA P X n) s with
      | none => rw [runA_stuck hE hs]; exact hself
      | some s2 =>
        rw [runA_step hE hs]
        obtain ⟨e', fr1, frs1, w1, hle, hst, F1, Fs1, H1, hb⟩ := step_sim G hsub F Fs H (cs := cs) hs
        exact Goes.trans hle hst hb (run_sound G n s2 e' fr1 frs1 cs w1 F1 Fs1 H1)

/-- what the abstract machine comes to, the program comes to, for every tape. -/
theorem calls_of_run (G : Good P X) {f : FuncId} {n : Nat} {s : AS} {v : Value} {h' : AH} (hs : startA P f [] = some s) (ha : answerOf P f (runA P X n s) = some (v, h')) (w : World) :
    Calls P f #[] w fun en w' => ∃ v', en = .returned v' ∧ Below w.heap.size w w' ∧ ∃ e', VRel e' v v' := by
  intro cs
  unfold startA at hs
  obtain ⟨fr, hfr, rfl⟩ := opt_map_some hs
  have hV : VsRel { Env.mk0 with nx := 1000 } [] (#[] : Array Value).toList := VsRel.nil
  obtain ⟨F, _⟩ := enter_sim hV hfr
  have H : HRel { Env.mk0 with nx := 1000 } w.heap.size { tree := .leaf, fams := .leaf, next := 1000 } w := by
    refine ⟨?_, ?_, ?_, ?_, ?_, fun _ => rfl, ?_, fun _ => rfl, ?_, ?_, rfl⟩
    · intro b c d cs size es fam delta hl; cases hl
    · intro b c d o hl; cases hl
    · intro b1 b2 c d1 d2 hl; cases hl
    · intro b1 b2 x1 x2 hl; cases hl
    · intro b x F hl; cases hl
    · intro b x hl; cases hl
    · intro b c d hl; cases hl
    · show 1000 ≤ 1000 ∧ 1000 ≤ 1000000000 ∧ w.heap.size ≤ w.heap.size
      omega
  obtain ⟨e', fr1, frs1, w1, hle, hst, F1, Fs1, H1, hb⟩ := run_sound (B0 := w.heap.size) G n { fr, callers := [], h := { tree := .leaf, fams := .leaf, next := 1000 } } _ _ [] cs w F .nil H
  obtain ⟨rfl, rfl, hfn, v', hlv, hV'⟩ := answer_sim (P := P) F1 Fs1 H1 ha
  exact ⟨.returned v', w1, fr1, ⟨v', rfl, hb, e', hV'⟩, hst, hfn, hlv⟩
end
end Go.AM
