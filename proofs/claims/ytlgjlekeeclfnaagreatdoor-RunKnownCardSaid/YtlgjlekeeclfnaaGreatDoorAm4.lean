/-
  The abstract machine, part 4 of 4: a small evaluator of the model's programs over a memory of its own, and that what it comes to the program comes to, for every tape.
-/
import Derived.Test.YtlgjlekeeclfnaaGreatDoorAm3
namespace Go.AM
open Go

/-! ## the same machine, written for the kernel -/
noncomputable section

/-! ### tries -/
def PT.getK {α : Type} (t : PT α) : Nat → Option α :=
  @PT.rec α (fun _ => Nat → Option α) (fun _ => none)
    (fun _ v _ l r n => @Bool.rec (fun _ => Option α) (@Bool.rec (fun _ => Option α) (r (Nat.sub (Nat.div n (nat_lit 2)) (nat_lit 1))) (l (Nat.div n (nat_lit 2))) (Nat.beq (Nat.mod n (nat_lit 2)) (nat_lit 1))) v (Nat.beq n (nat_lit 0))) t

theorem PT.getK_eq {α : Type} (t : PT α) : ∀ n, t.getK n = t.get n := by
  induction t with
  | leaf => intro n; rfl
  | node l v r ihl ihr =>
    intro n
    have h1 : (PT.node l v r).getK n = cond (Nat.beq n 0) v (cond (Nat.beq (n % 2) 1) (l.getK (n / 2)) (r.getK (n / 2 - 1))) := by
      show @Bool.rec (fun _ => Option α) (@Bool.rec (fun _ => Option α) (r.getK (n / 2 - 1)) (l.getK (n / 2)) (Nat.beq (n % 2) 1)) v (Nat.beq n 0) = _
      cases Nat.beq n 0 <;> cases Nat.beq (n % 2) 1 <;> rfl
    rw [h1, ihl, ihr]; rfl

def PT.setK {α : Type} (f : Nat) : PT α → Nat → α → PT α :=
  @Nat.rec (fun _ => PT α → Nat → α → PT α) (fun t _ _ => t)
    (fun _ ih t n x => @PT.rec α (fun _ => PT α)
      (@Bool.rec (fun _ => PT α) (@Bool.rec (fun _ => PT α) (.node .leaf none (ih .leaf (Nat.sub (Nat.div n (nat_lit 2)) (nat_lit 1)) x)) (.node (ih .leaf (Nat.div n (nat_lit 2)) x) none .leaf) (Nat.beq (Nat.mod n (nat_lit 2)) (nat_lit 1))) (.node .leaf (some x) .leaf) (Nat.beq n (nat_lit 0)))
      (fun l v r _ _ => @Bool.rec (fun _ => PT α) (@Bool.rec (fun _ => PT α) (.node l v (ih r (Nat.sub (Nat.div n (nat_lit 2)) (nat_lit 1)) x)) (.node (ih l (Nat.div n (nat_lit 2)) x) v r) (Nat.beq (Nat.mod n (nat_lit 2)) (nat_lit 1))) (.node l (some x) r) (Nat.beq n (nat_lit 0))) t) f

theorem PT.setK_eq {α : Type} (f : Nat) : ∀ (t : PT α) (n : Nat) (x : α), PT.setK f t n x = PT.set f t n x := by
  induction f with
  | zero => intro t n x; rfl
  | succ f ih =>
    intro t n x
    cases t with
    | leaf =>
      have h1 : PT.setK (f + 1) (.leaf : PT α) n x = cond (Nat.beq n 0) (.node .leaf (some x) .leaf) (cond (Nat.beq (n % 2) 1) (.node (PT.setK f .leaf (n / 2) x) none .leaf) (.node .leaf none (PT.setK f .leaf (n / 2 - 1) x))) := by
        show @Bool.rec (fun _ => PT α) (@Bool.rec (fun _ => PT α) (.node .leaf none (PT.setK f .leaf (n / 2 - 1) x)) (.node (PT.setK f .leaf (n / 2) x) none .leaf) (Nat.beq (n % 2) 1)) (.node .leaf (some x) .leaf) (Nat.beq n 0) = _
        cases Nat.beq n 0 <;> cases Nat.beq (n % 2) 1 <;> rfl
      rw [h1, ih, ih]; rfl
    | node l v r =>
      have h1 : PT.setK (f + 1) (.node l v r : PT α) n x = cond (Nat.beq n 0) (.node l (some x) r) (cond (Nat.beq (n % 2) 1) (.node (PT.setK f l (n / 2) x) v r) (.node l v (PT.setK f r (n / 2 - 1) x))) := by
        show @Bool.rec (fun _ => PT α) (@Bool.rec (fun _ => PT α) (.node l v (PT.setK f r (n / 2 - 1) x)) (.node (PT.setK f l (n / 2) x) v r) (Nat.beq (n % 2) 1)) (.node l (some x) r) (Nat.beq n 0) = _
        cases Nat.beq n 0 <;> cases Nat.beq (n % 2) 1 <;> rfl
      rw [h1, ih, ih]; rfl

def getV (T : PT Value) (t : Nat) : Value := @Option.rec Value (fun _ => Value) undef (fun v => v) (T.getK t)
theorem getV_eq (T : PT Value) (t : Nat) : getV T t = (T.get t).getD undef := by
  unfold getV; rw [PT.getK_eq]; cases T.get t <;> rfl

def nthK {α : Type} (l : List α) : Nat → Option α :=
  @List.rec α (fun _ => Nat → Option α) (fun _ => none) (fun a _ ih n => @Nat.rec (fun _ => Option α) (some a) (fun m _ => ih m) n) l
theorem nthK_eq {α : Type} (l : List α) : ∀ n, nthK l n = l[n]? := by
  induction l with
  | nil => intro n; rfl
  | cons a l ih => intro n; cases n with
    | zero => rfl
    | succ n => exact (ih n).trans (by simp)

def evK (T : PT Value) (o : Operand) : Value :=
  @Operand.rec (fun _ => Value) (fun t => getV T t) (fun v => v) (fun g => .pointer (some ⟨g, 0, none⟩)) (fun f => .func (.func f) #[] #[]) o

theorem evK_eq (fr : AFrame) : evK fr.tmps = fr.eval := by
  funext o; cases o <;> first | rfl | exact getV_eq _ _

/-! ### the kinds of integers -/
def kix (k : IntKind) : Nat := @IntKind.rec (fun _ => Nat) (nat_lit 0) (nat_lit 1) (nat_lit 2) (nat_lit 3) (nat_lit 4) (nat_lit 5) (nat_lit 6) (nat_lit 7) k
theorem kix_inj {j k : IntKind} (h : Nat.beq (kix j) (kix k) = true) : j = k := by
  cases j <;> cases k <;> first | rfl | (exact absurd h (by decide))
/-- what a kind holds at most. -/
def topK (k : IntKind) : Nat := @IntKind.rec (fun _ => Nat) (nat_lit 127) (nat_lit 32767) (nat_lit 2147483647) (nat_lit 9223372036854775807) (nat_lit 255) (nat_lit 65535) (nat_lit 4294967295) (nat_lit 18446744073709551615) k
theorem wrap_top {k : IntKind} {n : Nat} (h : Nat.ble n (topK k) = true) : k.wrap (Int.ofNat n) = Int.ofNat n := by
  rw [nble, decide_eq_true_eq] at h
  cases k <;> simp only [topK] at h <;> unfold IntKind.wrap <;> simp [IntKind.signed, IntKind.bits] <;> omega

/-- what two natural numbers come to, where that is plain. -/
def fast2 (op : BinOp) (k : IntKind) (a b : Nat) : Option Value :=
  match op with
  | .add => @Bool.rec (fun _ => Option Value) none (some (.int k (.ofNat (Nat.add a b)))) (Nat.ble (Nat.add a b) (topK k))
  | .sub => @Bool.rec (fun _ => Option Value) none (@Bool.rec (fun _ => Option Value) none (some (.int k (.ofNat (Nat.sub a b)))) (Nat.ble a (topK k))) (Nat.ble b a)
  | .mul => @Bool.rec (fun _ => Option Value) none (some (.int k (.ofNat (Nat.mul a b)))) (Nat.ble (Nat.mul a b) (topK k))
  | .eql => some (.bool (Nat.beq a b))
  | .neq => some (.bool (@Bool.rec (fun _ => Bool) true false (Nat.beq a b)))
  | .lss => some (.bool (Nat.ble (Nat.succ a) b))
  | .leq => some (.bool (Nat.ble a b))
  | .gtr => some (.bool (Nat.ble (Nat.succ b) a))
  | .geq => some (.bool (Nat.ble b a))
  | _ => none

theorem fast2_eq {op : BinOp} {k : IntKind} {a b : Nat} {v : Value} (h : fast2 op k a b = some v) : intOp op k (.ofNat a) (.ofNat b) = some v := by
  cases op <;> simp only [fast2] at h <;> try cases h
  case add =>
    cases hb : Nat.ble (Nat.add a b) (topK k) <;> rw [hb] at h <;> cases h
    show some (Value.int k (k.wrap (Int.ofNat (Nat.add a b)))) = _
    rw [wrap_top hb]
  case sub =>
    cases hb : Nat.ble b a <;> rw [hb] at h <;> try cases h
    cases hc : Nat.ble a (topK k) <;> rw [hc] at h <;> try cases h
    have hba : b ≤ a := by rw [nble, decide_eq_true_eq] at hb; exact hb
    have hat : a ≤ topK k := by rw [nble, decide_eq_true_eq] at hc; exact hc
    have hd : Nat.ble (a - b) (topK k) = true := by rw [nble, decide_eq_true_eq]; omega
    show some (Value.int k (k.wrap ((a : Int) - b))) = some (Value.int k (Int.ofNat (a - b)))
    rw [show ((a : Int) - b) = Int.ofNat (a - b) from by show (a : Int) - b = ((a - b : Nat) : Int); omega, wrap_top hd]
  case mul =>
    cases hb : Nat.ble (Nat.mul a b) (topK k) <;> rw [hb] at h <;> cases h
    show some (Value.int k (k.wrap (Int.ofNat (Nat.mul a b)))) = _
    rw [wrap_top hb]
  case eql =>
    show some (Value.bool ((a : Int) == (b : Int))) = _
    congr 2; rw [Bool.eq_iff_iff]; simp; omega
  case neq =>
    show some (Value.bool ((a : Int) != (b : Int))) = _
    congr 2
    cases hb : Nat.beq a b
    · simp only []; rw [bne_iff_ne]; intro hc; rw [Int.ofNat_inj.1 hc] at hb; simp at hb
    · simp only []; have := Nat.eq_of_beq_eq_true hb; subst this; simp
  case lss =>
    show some (Value.bool (decide ((a : Int) < (b : Int)))) = _
    congr 2; rw [Bool.eq_iff_iff]; simp; omega
  case leq =>
    show some (Value.bool (decide ((a : Int) ≤ (b : Int)))) = _
    congr 2; rw [Bool.eq_iff_iff]; simp
  case gtr =>
    show some (Value.bool (decide ((b : Int) < (a : Int)))) = _
    congr 2; rw [Bool.eq_iff_iff]; simp; omega
  case geq =>
    show some (Value.bool (decide ((b : Int) ≤ (a : Int)))) = _
    congr 2; rw [Bool.eq_iff_iff]; simp
end
end Go.AM

namespace Go.AM
open Go

noncomputable section
section
variable (P : Program) (X : FuncId → List Value → Option Value)

/-! ### memory -/
def fieldOff (s : TypeId) (f : Nat) : Option Nat :=
  match P.underlying s with
  | some (.struct fields) => (fields[f]?).bind fun fd => (sizeOf P fd.type).bind fun n => cond (Nat.beq n 0) none (some fd.offset)
  | _ => none

def elemSize (t : TypeId) : Option Nat :=
  match P.underlying t with
  | some (.slice e) => sizeOf P e
  | _ => none

def scalar (t : TypeId) : Bool := (P.underlying t).isSome && !(isAgg P t)

def cellK (h : AH) (b off : Nat) : Option Value :=
  match h with
  | ⟨tree, fams, _⟩ =>
    match tree.getK b with
    | some (.row cs _ _ fam _) =>
      match fams.getK fam with
      | none => nthK cs off
      | some F => cond (cond (Nat.beq F.head b) true F.oldAlive) (nthK cs off) none
    | _ => none

theorem cellK_eq (h : AH) (b off : Nat) : cellK h b off = h.cellAt b off := by
  obtain ⟨tree, fams, nx⟩ := h
  unfold cellK AH.cellAt AH.readable
  simp only [PT.getK_eq, nthK_eq]
  split
  · rename_i hg
    rw [hg]; simp only []
    cases hf : fams.get _ <;> rfl
  · rename_i hg
    split
    · rename_i hg2; exact absurd hg2 (hg _ _ _ _ _)
    · rfl

def over1 (cs : List Value) (v : Value) : Nat → List Value :=
  @List.rec Value (fun _ => Nat → List Value) (fun _ => []) (fun a l ih n => @Nat.rec (fun _ => List Value) (v :: l) (fun m _ => a :: ih m) n) cs

theorem over1_eq (cs : List Value) (v : Value) : ∀ n, over1 cs v n = over cs n [v] := by
  induction cs with
  | nil => intro n; cases n <;> rfl
  | cons a l ih => intro n; cases n with
    | zero => show v :: l = _; unfold over over.ovr over.ovr; cases l <;> rfl
    | succ n => show a :: over1 l v n = a :: over l n [v]; rw [ih]

def storeK (h : AH) (b off : Nat) (sz : Option Nat) (v : Value) : Option AH :=
  match sz with
  | none => none
  | some n => match Nat.beq n (nat_lit 1) with
    | false => none
    | true => match plainCell v with
      | false => none
      | true => match Nat.ble 1000 b with
        | false => none
        | true => match h with
          | ⟨tree, fams, next⟩ => match tree.getK b with
            | some (.row cs size es fam delta) => match Nat.ble (Nat.succ off) size with
              | false => none
              | true => match fams.getK fam with
                | none => some ⟨tree.setK 64 b (.row (over1 cs v off) size es fam delta), fams, next⟩
                | some _ => none
            | _ => none

theorem plain_cells {v : Value} (h : plainCell v = true) : v.cells.toList = [v] := by
  cases v <;> first | rfl | cases h

theorem storeK_eq {h : AH} {b off : Nat} {sz : Option Nat} {v : Value} {h' : AH} (hs : storeK h b off sz v = some h') :
    (sz.bind fun n => cond (Nat.beq v.cells.toList.length n) ((h.storeAt b off v.cells.toList).map fun h => ANext.skip h) none) = some (.skip h') := by
  cases sz with
  | none => cases hs
  | some n =>
    unfold storeK at hs
    simp only [] at hs
    split at hs <;> try cases hs
    rename_i h1
    split at hs <;> try cases hs
    rename_i h2
    split at hs <;> try cases hs
    rename_i h3
    obtain ⟨tree, fams, next⟩ := h
    simp only [PT.getK_eq, PT.setK_eq, over1_eq] at hs
    split at hs <;> try cases hs
    rename_i cs size es fam delta hg
    split at hs <;> try cases hs
    rename_i h4
    split at hs <;> try cases hs
    rename_i h5
    have hn : n = 1 := Nat.eq_of_beq_eq_true h1
    subst hn
    simp only [plain_cells h2, Option.bind_some, List.length_singleton]
    show Option.map _ _ = _
    unfold AH.storeAt
    simp only [hg, h5, h3]
    have h4' : Nat.ble (off + [v].length) size = true := h4
    simp only [h4', List.all_cons, List.all_nil, h2, Bool.and_true, cond_true]
    rfl

def newRowK (h : AH) (cs : List Value) (size es : Nat) : Option (AH × Nat) :=
  match h with
  | ⟨tree, fams, next⟩ => cond (Nat.blt next 1000000000 && Nat.beq cs.length size && cs.all plainCell) (some (⟨tree.setK 64 next (.row cs size es next 0), fams, Nat.succ next⟩, next)) none
theorem newRowK_eq (h : AH) (cs : List Value) (size es : Nat) : newRowK h cs size es = h.newRow cs size es := by
  obtain ⟨tree, fams, next⟩ := h
  unfold newRowK AH.newRow
  simp only [PT.setK_eq]

/-! ### operations -/
def binK (h : AH) (op : BinOp) (x y : Value) (slow : Option ANext) : Option ANext :=
  match x with
  | .int k i => match i with
    | .ofNat a => match y with
      | .int k' j => match j with
        | .ofNat b => match Nat.beq (kix k) (kix k') with
          | true => match fast2 op k a b with
            | some v => some (.value v h)
            | none => slow
          | false => slow
        | _ => slow
      | _ => slow
    | _ => slow
  | _ => slow

def idxK (h : AH) (n : Nat) (x ix : Value) (slow : Option ANext) : Option ANext :=
  match x with
  | .slice (some a) len _ => match ix with
    | .int _ i => match i with
      | .ofNat i => match Nat.ble (Nat.succ i) len with
        | true => some (.value (.pointer (some ⟨a.block, Nat.add a.off (Nat.mul i n), none⟩)) h)
        | false => none
      | _ => slow
    | _ => slow
  | _ => slow

def callK (h : AH) (ρ : Operand → Value) (c : Call) (slow : Option ANext) : Option ANext :=
  match c.callee with
  | .value f => match ρ f with
    | .func fn first captured => match fn with
      | .func g => callA P X h g ((first.toList ++ c.args.toList.map ρ) ++ captured.toList)
      | _ => slow
    | _ => slow
  | .builtin b => match b with
    | .len => match c.argTypes.toList, c.args.toList with
      | t :: _, [x] => match lenA P t h (ρ x) with
        | some n => some (.value (.int .i64 (n : Int)) h)
        | none => none
      | _, _ => slow
    | _ => slow
  | _ => slow

def opK (h : AH) (ρ : Operand → Value) (o : Oper) : Option ANext :=
  match o.op with
  | .move x => some (.value (ρ x) h)
  | .assign x => some (.value (ρ x) h)
  | .load t a => match scalar P t with
    | true => match ρ a with
      | .pointer (some a) => match cellK h a.block a.off with
        | some v => some (.value v h)
        | none => none
      | _ => none
    | false => opA P X h ρ o
  | .store t a x => match ρ a with
    | .pointer (some a) => match storeK h a.block a.off (sizeOf P t) (ρ x) with
      | some h' => some (.skip h')
      | none => opA P X h ρ o
    | _ => none
  | .fieldAddr s x f => match fieldOff P s f with
    | some off => match ρ x with
      | .pointer (some a) => some (.value (.pointer (some ⟨a.block, Nat.add a.off off, none⟩)) h)
      | _ => none
    | none => opA P X h ρ o
  | .nilCheck x => match ρ x with
    | .pointer (some a) => some (.value (.pointer (some a)) h)
    | _ => opA P X h ρ o
  | .binOp op _ x y _ => binK h op (ρ x) (ρ y) (opA P X h ρ o)
  | .indexAddr t x ix => match elemSize P t with
    | some n => idxK h n (ρ x) (ρ ix) (opA P X h ρ o)
    | none => opA P X h ρ o
  | .pick c a b => match ρ c with
    | .bool t => some (.value (cond t (ρ a) (ρ b)) h)
    | _ => none
  | .box _ x => match newRowK h (ρ x).cells.toList (ρ x).cells.toList.length 0 with
    | some (h, b) => some (.value (.pointer (some ⟨b, 0, none⟩)) h)
    | none => none
  | .alloc e => match zeroCells P e with
    | some z => match newRowK h z z.length 0 with
      | some (h, b) => some (.value (.pointer (some ⟨b, 0, none⟩)) h)
      | none => none
    | none => none
  | .call c => callK P X h ρ c (opA P X h ρ o)
  | _ => opA P X h ρ o

theorem opK_eq (h : AH) (ρ : Operand → Value) (o : Oper) : opK P X h ρ o = opA P X h ρ o := by
  obtain ⟨dst, op, ty, pos, after, guard⟩ := o
  cases op <;> try rfl
  case alloc e =>
    simp only [opK, opA, newRowK_eq]
    cases zeroCells P e with
    | none => rfl
    | some z => simp only [Option.bind_some]; cases h.newRow z z.length 0 <;> rfl
  case box e x =>
    simp only [opK, opA, newRowK_eq]
    cases h.newRow _ _ 0 <;> rfl
  case load t a =>
    simp only [opK, scalar, cellK_eq]
    split
    · rename_i hs
      simp only [Bool.and_eq_true, Bool.not_eq_true'] at hs
      simp only [opA, hs.1, hs.2, cond_true, cond_false]
      split
      · rename_i a' ha
        rw [ha]
        simp only []
        cases h.cellAt a'.block a'.off <;> rfl
      · rename_i ha
        split
        · rename_i a' ha'; exact absurd ha' (ha _)
        · rfl
    · rfl
  case store t a x =>
    simp only [opK]
    split
    · rename_i a' ha
      split
      · rename_i h' hs
        simp only [opA, ha]
        exact (storeK_eq hs).symm
      · rfl
    · rename_i ha
      simp only [opA]
  case fieldAddr s x f =>
    simp only [opK]
    split
    · rename_i off hf
      simp only [opA]
      unfold fieldOff at hf
      split at hf
      · rename_i fields hu
        simp only [hu]
        split
        · rename_i a' ha
          rw [ha]
          simp only []
          cases hfd : fields[f]? with
          | none => rw [hfd] at hf; cases hf
          | some fd =>
            rw [hfd] at hf
            simp only [Option.bind_some] at hf ⊢
            cases hz : Go.AM.sizeOf P fd.type with
            | none => rw [hz] at hf; cases hf
            | some n =>
              rw [hz] at hf
              simp only [Option.bind_some] at hf ⊢
              cases hb : Nat.beq n 0 with
              | true => rw [hb] at hf; cases hf
              | false => rw [hb] at hf; simp only [cond_false, Option.some.injEq] at hf ⊢; subst hf; rfl
        · rename_i ha
          split
          · rename_i heq1 heq2; exact absurd heq2 (ha _)
          · rfl
      · cases hf
    · rfl
  case nilCheck x =>
    simp only [opK]
    split
    · rename_i a' ha; simp only [opA, ha]
    · rfl
  case binOp op t x y yt =>
    simp only [opK]
    unfold binK
    split <;> try rfl
    rename_i k i hx
    split <;> try rfl
    rename_i a
    split <;> try rfl
    rename_i k' j hy
    split <;> try rfl
    rename_i b
    split <;> try rfl
    rename_i hk
    split <;> try rfl
    rename_i v hv
    have := kix_inj hk
    subst this
    simp only [opA, hx, hy, binA]
    have h2 := fast2_eq hv
    cases op <;> simp only [fast2] at hv <;> first | (simp only [if_true, h2]; rfl) | cases hv
  case indexAddr t x ix =>
    simp only [opK]
    split
    · rename_i n hn
      unfold elemSize at hn
      split at hn
      · rename_i e hu
        unfold idxK
        split <;> try rfl
        rename_i a' len cap hx
        split <;> try rfl
        rename_i k i hi
        split <;> try rfl
        rename_i i
        simp only [opA, hu, hx, hi]
        split
        · rename_i hb
          rw [nble, decide_eq_true_eq] at hb
          rw [if_pos ⟨Int.natCast_nonneg i, by show (i : Int) < len; omega⟩, hn]
          rfl
        · rename_i hb
          rw [nble, decide_eq_false_iff_not] at hb
          rw [if_neg (by rintro ⟨_, h2⟩; have h2' : (i : Int) < len := h2; omega)]
      · cases hn
    · rfl
  case call c =>
    simp only [opK]
    unfold callK
    split
    · rename_i f hc
      split <;> try rfl
      rename_i fn first captured hf
      split <;> try rfl
      simp only [opA, hc, hf, invokeA]
    · rename_i b hc
      split <;> try rfl
      split <;> try rfl
      rename_i t _ x ht hx
      simp only [opA, hc, builtinA, ht, hx, List.map_cons, List.map_nil]
      cases lenA P t h (ρ x) <;> rfl
    · rfl

def execK (h : AH) (ρ : Operand → Value) (o : Oper) : Option ANext := match okOper o with | true => opK P X h ρ o | false => none
theorem execK_eq (h : AH) (ρ : Operand → Value) (o : Oper) : execK P X h ρ o = execA P X h ρ o := by
  unfold execK execA; rw [opK_eq]; cases okOper o <;> rfl
end
end
end Go.AM

namespace Go.AM
open Go

noncomputable section
section
variable (P : Program) (X : FuncId → List Value → Option Value)

/-! ### regions that draw -/
def evalRK (rs : List Row) (T0 : PT Value) (vals : PT Value) (r : Row) : Operand → Value
  | .tmp t => match writer rs t with
    | some w => match (preds r.o).any (Nat.beq · w) with | true => getV vals w | false => getV T0 t
    | none => getV T0 t
  | .const v => v
  | .global g => .pointer (some ⟨g, 0, none⟩)
  | .func f => .func (.func f) #[] #[]

theorem evalRK_eq (rs : List Row) (T0 vals : PT Value) (r : Row) : evalRK rs T0 vals r = evalR rs T0 vals r := by
  funext o
  cases o <;> simp only [evalRK, evalR, getV_eq]
  cases writer rs _ with
  | none => rfl
  | some w => simp only []; cases (preds r.o).any (Nat.beq · w) <;> rfl

def wantedRK (vals : PT Value) (o : Oper) : Bool :=
  match o.guard with
  | none => true
  | some (j, want) => match vals.getK j with | some (.bool b) => b == want | _ => false
theorem wantedRK_eq (vals : PT Value) (o : Oper) : wantedRK vals o = wantedR vals o := by
  unfold wantedRK wantedR; simp only [PT.getK_eq]; cases o.guard <;> rfl

def stage1 (rs : List Row) (T0 : PT Value) (r : Row) (vals : PT Value) (h : AH) (ih : PT Value → AH → Option (PT Value × AH)) : Option (PT Value × AH) :=
  match wantedRK vals r.o with
  | true => match execK P X h (evalRK rs T0 vals r) r.o with
    | some (.value v h') => ih (PT.setK 64 vals r.i v) h'
    | _ => none
  | false => ih (PT.setK 64 vals r.i undef) h

def stageAK (rs : List Row) (T0 : PT Value) (j : Nat) (l : List Row) : PT Value → AH → Option (PT Value × AH) :=
  @List.rec Row (fun _ => PT Value → AH → Option (PT Value × AH)) (fun vals h => some (vals, h))
    (fun r _ ih vals h => @Bool.rec (fun _ => Option (PT Value × AH)) (stage1 P X rs T0 r vals h ih) (ih vals h) (isEff P r.o || !(Nat.beq r.e0 j))) l

theorem stageAK_eq (rs : List Row) (T0 : PT Value) (j : Nat) (l : List Row) : ∀ vals h, stageAK P X rs T0 j l vals h = stageA P X rs T0 j l vals h := by
  induction l with
  | nil => intro vals h; rfl
  | cons r l ih =>
    intro vals h
    have h1 : stageAK P X rs T0 j (r :: l) vals h = @Bool.rec (fun _ => Option (PT Value × AH)) (stage1 P X rs T0 r vals h (stageAK P X rs T0 j l)) (stageAK P X rs T0 j l vals h) (isEff P r.o || !(Nat.beq r.e0 j)) := rfl
    rw [h1, stageA]
    cases isEff P r.o || !(Nat.beq r.e0 j) with
    | true => exact ih vals h
    | false =>
      show stage1 P X rs T0 r vals h (stageAK P X rs T0 j l) = cond false _ _
      unfold stage1
      rw [wantedRK_eq, execK_eq, evalRK_eq, PT.setK_eq]
      cases wantedR vals r.o with
      | true =>
        simp only [cond_true, cond_false]
        split
        · rename_i v h' hx; rw [hx]; simp only [PT.setK_eq]; exact ih _ _
        · rename_i hx
          split
          · rename_i v h' hx'; exact absurd hx' (hx _ _)
          · rfl
      | false => exact ih _ _

def newOK (h h' : AH) (u v : Value) (b : Nat) : Bool :=
  veq u v && (h.fams.getK b).isNone &&
    (match h.tree.getK b, h'.tree.getK b with
     | some (.row cs n es f d), some (.row ds m es' _ _) => Nat.beq n m && Nat.beq es es' && veqs cs ds && Nat.beq f b && Nat.beq d 0
     | some (.map [] 0), some (.map [] 0) => true
     | _, _ => false)

def checkNewK (rs : List Row) (T0 vals : PT Value) (h : AH) (r : Row) (u : Value) (b : Nat) : Bool :=
  match execK P X { h with next := b } (evalRK rs T0 vals r) r.o with
  | some (.value v h') => newOK h h' u v b
  | _ => false
theorem checkNewK_eq (rs : List Row) (T0 vals : PT Value) (h : AH) (r : Row) (u : Value) (b : Nat) : checkNewK P X rs T0 vals h r u b = checkNew P X rs T0 vals h r u b := by
  unfold checkNewK checkNew newOK
  rw [execK_eq, evalRK_eq]
  simp only [PT.getK_eq]
  rfl

def checkU (rs : List Row) (T0 vals : PT Value) (h : AH) (r : Row) (u : Value) : Bool :=
  match clsOf P r.o with
  | .effect => false
  | .alloc => match u with
    | .pointer (some a) => checkNewK P X rs T0 vals h r u a.block
    | .slice (some a) _ _ => checkNewK P X rs T0 vals h r u a.block
    | .map (some b) => checkNewK P X rs T0 vals h r u b
    | _ => false
  | _ => match execK P X h (evalRK rs T0 vals r) r.o with
    | some (.value v _) => veq u v
    | _ => false

def checkRK (rs : List Row) (T0 vals : PT Value) (h : AH) (r : Row) : Bool :=
  match vals.getK r.i with
  | none => false
  | some u => match wantedRK vals r.o with
    | true => checkU P X rs T0 vals h r u
    | false => veq u undef

theorem checkRK_eq (rs : List Row) (T0 vals : PT Value) (h : AH) (r : Row) : checkRK P X rs T0 vals h r = checkR P X rs T0 vals h r := by
  unfold checkRK checkR checkU
  simp only [PT.getK_eq, wantedRK_eq, checkNewK_eq, execK_eq, evalRK_eq]
  cases vals.get r.i with
  | none => rfl
  | some u =>
    simp only []
    cases wantedR vals r.o with
    | true => simp only [cond_true]; cases clsOf P r.o <;> rfl
    | false => rfl

def checkAllK (rs0 : List Row) (T0 vals : PT Value) (h : AH) (j : Nat) (l : List Row) : Bool :=
  @List.rec Row (fun _ => Bool) true (fun r _ ih => @Bool.rec (fun _ => Bool) (@Bool.rec (fun _ => Bool) false ih (checkRK P X rs0 T0 vals h r)) ih (isEff P r.o || Nat.blt j r.e0 || Nat.blt r.l j)) l
theorem checkAllK_eq (rs0 : List Row) (T0 vals : PT Value) (h : AH) (j : Nat) (l : List Row) :
    checkAllK P X rs0 T0 vals h j l = l.all fun r => isEff P r.o || Nat.blt j r.e0 || Nat.blt r.l j || checkR P X rs0 T0 vals h r := by
  induction l with
  | nil => rfl
  | cons r l ih =>
    have h1 : checkAllK P X rs0 T0 vals h j (r :: l) = @Bool.rec (fun _ => Bool) (@Bool.rec (fun _ => Bool) false (checkAllK P X rs0 T0 vals h j l) (checkRK P X rs0 T0 vals h r)) (checkAllK P X rs0 T0 vals h j l) (isEff P r.o || Nat.blt j r.e0 || Nat.blt r.l j) := rfl
    rw [h1, ih, checkRK_eq, List.all_cons]
    cases (isEff P r.o || Nat.blt j r.e0 || Nat.blt r.l j) <;> cases checkR P X rs0 T0 vals h r <;> simp

def stageRK (rs : List Row) (T0 : PT Value) (j : Nat) (vals : PT Value) (h : AH) : Option (PT Value × AH) :=
  match stageAK P X rs T0 j rs vals h with
  | some (vals, h) => match checkAllK P X rs T0 vals h j rs with | true => some (vals, h) | false => none
  | none => none
theorem stageRK_eq (rs : List Row) (T0 : PT Value) (j : Nat) (vals : PT Value) (h : AH) : stageRK P X rs T0 j vals h = stageR P X rs T0 j vals h := by
  unfold stageRK stageR checkAll
  rw [stageAK_eq]
  cases stageA P X rs T0 j rs vals h with
  | none => rfl
  | some q => obtain ⟨vals, h⟩ := q; simp only [checkAllK_eq]; cases (rs.all _) <;> rfl

def effRK (sub : AH → FuncId → List Value → Option (Value × AH)) (rs : List Row) (T0 : PT Value) (r : Row) (vals : PT Value) (h : AH) : Option (Value × AH) :=
  match wantedRK vals r.o with
  | true => match execK P X h (evalRK rs T0 vals r) r.o with
     | some (.value v h) => some (v, h)
     | some (.skip h) => some (undef, h)
     | some (.enter f args h) => sub h f args
     | _ => none
  | false => some (undef, h)
theorem effRK_eq (sub : AH → FuncId → List Value → Option (Value × AH)) (rs : List Row) (T0 : PT Value) (r : Row) (vals : PT Value) (h : AH) : effRK P X sub rs T0 r vals h = effR P X sub rs T0 r vals h := by
  unfold effRK effR
  rw [wantedRK_eq, execK_eq, evalRK_eq]
  cases wantedR vals r.o <;> rfl

def regionRK (sub : AH → FuncId → List Value → Option (Value × AH)) (rs : List Row) (T0 : PT Value) (l : List Row) : PT Value → AH → Option (PT Value × AH) :=
  @List.rec Row (fun _ => PT Value → AH → Option (PT Value × AH)) (fun vals h => some (vals, h))
    (fun r _ ih vals h => match effRK P X sub rs T0 r vals h with
      | some (v, h) => match stageRK P X rs T0 (Nat.succ r.no) (PT.setK 64 vals r.i v) h with
        | some (vals, h) => ih vals h
        | none => none
      | none => none) l
theorem regionRK_eq (sub : AH → FuncId → List Value → Option (Value × AH)) (rs : List Row) (T0 : PT Value) (l : List Row) : ∀ vals h, regionRK P X sub rs T0 l vals h = regionR P X sub rs T0 l vals h := by
  induction l with
  | nil => intro vals h; rfl
  | cons r l ih =>
    intro vals h
    have h1 : regionRK P X sub rs T0 (r :: l) vals h = match effRK P X sub rs T0 r vals h with
      | some (v, h) => match stageRK P X rs T0 (Nat.succ r.no) (PT.setK 64 vals r.i v) h with
        | some (vals, h) => regionRK P X sub rs T0 l vals h
        | none => none
      | none => none := rfl
    rw [h1, regionR, effRK_eq]
    cases effR P X sub rs T0 r vals h with
    | none => rfl
    | some q =>
      obtain ⟨v, h⟩ := q
      simp only [stageRK_eq, PT.setK_eq]
      cases stageR P X rs T0 (r.no + 1) (PT.set 64 vals r.i v) h with
      | none => rfl
      | some q => exact ih _ _

def putAllK (n : Nat) (l : List Row) (vals : PT Value) : PT Value → Option (PT Value) :=
  @List.rec Row (fun _ => PT Value → Option (PT Value)) (fun T => some T)
    (fun r _ ih T => match r.o.dst with
      | some d => @Bool.rec (fun _ => Option (PT Value)) none (ih (PT.setK 64 T d (getV vals r.i))) (Nat.blt d n)
      | none => ih T) l
theorem putAllK_eq (n : Nat) (l : List Row) (vals : PT Value) : ∀ T, putAllK n l vals T = putAll n l vals T := by
  induction l with
  | nil => intro T; rfl
  | cons r l ih =>
    intro T
    have h1 : putAllK n (r :: l) vals T = match r.o.dst with
      | some d => @Bool.rec (fun _ => Option (PT Value)) none (putAllK n l vals (PT.setK 64 T d (getV vals r.i))) (Nat.blt d n)
      | none => putAllK n l vals T := rfl
    rw [h1, putAll]
    unfold putT
    cases r.o.dst with
    | none => exact ih T
    | some d =>
      simp only [PT.setK_eq, getV_eq]
      cases Nat.blt d n with
      | false => rfl
      | true => exact ih _

/-- what is asked of a region that draws, once. -/
def okDraw (ops : Array Oper) : Bool := okRows P ops (rowsOf P ops) (ops.toList.countP (isEff P)) && Nat.blt (rowsOf P ops).length 1000000
def effRows (ops : Array Oper) : List Row := (rowsOf P ops).filter fun r => isEff P r.o
def dstsOK (ops : Array Oper) (n : Nat) : Bool := (rowsOf P ops).all fun r => match r.o.dst with | some d => Nat.blt d n | none => true

def drawRK (sub : AH → FuncId → List Value → Option (Value × AH)) (ops : Array Oper) (n : Nat) (T0 : PT Value) (h : AH) : Option (PT Value × AH) :=
  match okDraw P ops with
  | false => none
  | true => match dstsOK P ops n with
    | false => none
    | true => match stageRK P X (rowsOf P ops) T0 0 .leaf h with
      | some (vals, h) => match regionRK P X sub (rowsOf P ops) T0 (effRows P ops) vals h with
        | some (vals, h) => match putAllK n (rowsOf P ops) vals T0 with
          | some T => some (T, h)
          | none => none
        | none => none
      | none => none
theorem drawRK_eq (sub : AH → FuncId → List Value → Option (Value × AH)) (ops : Array Oper) (n : Nat) (T0 : PT Value) (h : AH) : drawRK P X sub ops n T0 h = drawR P X sub ops n T0 h := by
  unfold drawRK drawR okDraw dstsOK effRows
  simp only [stageRK_eq, regionRK_eq, putAllK_eq]
  cases okRows P ops (rowsOf P ops) (ops.toList.countP (isEff P)) <;> cases Nat.blt (rowsOf P ops).length 1000000 <;> simp only [Bool.true_and, Bool.false_and, cond_false, Bool.and_self, Bool.and_true, Bool.and_false]
  cases ((rowsOf P ops).all fun r => match r.o.dst with | some d => Nat.blt d n | none => true) with
  | false => rfl
  | true =>
    simp only [cond_true]
    cases stageR P X (rowsOf P ops) T0 0 .leaf h with
    | none => rfl
    | some q =>
      obtain ⟨vals, h⟩ := q
      simp only []
      cases regionR P X sub (rowsOf P ops) T0 ((rowsOf P ops).filter fun r => isEff P r.o) vals h with
      | none => rfl
      | some q =>
        obtain ⟨vals, h⟩ := q
        simp only []
        cases putAll n (rowsOf P ops) vals T0 <;> rfl

/-! ### a step -/
def ofListK (l : List Value) : Nat → PT Value → PT Value :=
  @List.rec Value (fun _ => Nat → PT Value → PT Value) (fun _ t => t) (fun x _ ih i t => ih (Nat.succ i) (PT.setK 64 t i x)) l
theorem ofListK_eq (l : List Value) : ∀ i t, ofListK l i t = PT.ofList l i t := by
  induction l with
  | nil => intro i t; rfl
  | cons x l ih =>
    intro i t
    show ofListK l (i + 1) (PT.setK 64 t i x) = PT.ofList l (i + 1) (PT.set 64 t i x)
    rw [ih, PT.setK_eq]

def enterK (f : FuncId) (args : List Value) (c0 : List AFrame) (h : AH) : Option AS :=
  match P.funcs[f]? with
  | some fn => match fn.body with
    | some c => match Nat.blt (max args.length fn.ntmps) 1000000 with
      | true => some ⟨⟨f, max args.length fn.ntmps, ofListK args 0 .leaf, [.code c], [], .run, .normal, none⟩, c0, h⟩
      | false => none
    | none => none
  | none => none
theorem enterK_eq (f : FuncId) (args : List Value) (c0 : List AFrame) (h : AH) : enterK P f args c0 h = (enterA P f args .normal).map fun g => ⟨g, c0, h⟩ := by
  unfold enterK enterA
  simp only [ofListK_eq]
  cases P.funcs[f]? with
  | none => rfl
  | some fn =>
    simp only []
    cases fn.body with
    | none => rfl
    | some c => simp only []; cases Nat.blt (max args.length fn.ntmps) 1000000 <;> rfl

def finK (fn n : Nat) (T : PT Value) (it : List AItem) (defers : List Deferred) (kind : CallKind) (ro : Option Nat) (callers : List AFrame) (h : AH) (dst : Option Tmp) (v : Value) : Option AS :=
  match dst with
  | none => some ⟨⟨fn, n, T, it, defers, .run, kind, ro⟩, callers, h⟩
  | some d => @Bool.rec (fun _ => Option AS) none (some ⟨⟨fn, n, PT.setK 64 T d v, it, defers, .run, kind, ro⟩, callers, h⟩) (Nat.blt d n)
theorem finK_eq (fn n : Nat) (T : PT Value) (ops : Array Oper) (o : Oper) (rest : List Oper) (k : List AItem) (defers : List Deferred) (kind : CallKind) (ro : Option Nat) (callers : List AFrame) (h : AH) (v : Value) :
    finK fn n T (.inRegion ops rest :: k) defers kind ro callers h o.dst v = (finishA ⟨fn, n, T, .inRegion ops (o :: rest) :: k, defers, .run, kind, ro⟩ v).map fun fr => { fr, callers, h } := by
  unfold finK finishA putT
  simp only [PT.setK_eq]
  cases o.dst with
  | none => rfl
  | some d => simp only []; cases Nat.blt d n <;> rfl

def nextK (fn n : Nat) (T : PT Value) (ops : Array Oper) (o : Oper) (rest : List Oper) (k : List AItem) (defers : List Deferred) (kind : CallKind) (ro : Option Nat) (callers : List AFrame) (nx : Option ANext) : Option AS :=
  match nx with
  | none => none
  | some nx => match nx with
    | .value v h => finK fn n T (.inRegion ops rest :: k) defers kind ro callers h o.dst v
    | .skip h => finK fn n T (.inRegion ops rest :: k) defers kind ro callers h o.dst undef
    | .enter f args h => enterK P f args (⟨fn, n, T, .inRegion ops (o :: rest) :: k, defers, .run, kind, ro⟩ :: callers) h
    | nx => afterA P ⟨fn, n, T, .inRegion ops (o :: rest) :: k, defers, .run, kind, ro⟩ callers nx
theorem nextK_eq (fn n : Nat) (T : PT Value) (ops : Array Oper) (o : Oper) (rest : List Oper) (k : List AItem) (defers : List Deferred) (kind : CallKind) (ro : Option Nat) (callers : List AFrame) (nx : Option ANext) :
    nextK P fn n T ops o rest k defers kind ro callers nx = nx.bind fun nx => afterA P ⟨fn, n, T, .inRegion ops (o :: rest) :: k, defers, .run, kind, ro⟩ callers nx := by
  cases nx with
  | none => rfl
  | some nx =>
    cases nx <;> simp only [nextK, Option.bind_some, finK_eq, enterK_eq, afterA]

def operK (fn n : Nat) (T : PT Value) (ops : Array Oper) (o : Oper) (rest : List Oper) (k : List AItem) (defers : List Deferred) (kind : CallKind) (ro : Option Nat) (callers : List AFrame) (h : AH) : Option AS :=
  match o.guard with
  | none => nextK P fn n T ops o rest k defers kind ro callers (execK P X h (evK T) o)
  | some _ => match wantedA ops T o with
    | true => nextK P fn n T ops o rest k defers kind ro callers (execK P X h (evK T) o)
    | false => finK fn n T (.inRegion ops rest :: k) defers kind ro callers h o.dst undef

def codeK (sub : AH → FuncId → List Value → Option (Value × AH)) (fn n : Nat) (T : PT Value) (c : Code) (k : List AItem) (defers : List Deferred) (kind : CallKind) (ro : Option Nat) (callers : List AFrame) (h : AH) : Option AS :=
  match c with
  | .seq a b => some ⟨⟨fn, n, T, .code a :: .code b :: k, defers, .run, kind, ro⟩, callers, h⟩
  | .skip => some ⟨⟨fn, n, T, k, defers, .run, kind, ro⟩, callers, h⟩
  | .cond o a b => match evK T o with
    | .bool t => @Bool.rec (fun _ => Option AS) (some ⟨⟨fn, n, T, .code b :: k, defers, .run, kind, ro⟩, callers, h⟩) (some ⟨⟨fn, n, T, .code a :: k, defers, .run, kind, ro⟩, callers, h⟩) t
    | _ => none
  | .block id body => some ⟨⟨fn, n, T, .code body :: .inBlock id :: k, defers, .run, kind, ro⟩, callers, h⟩
  | .loop body => some ⟨⟨fn, n, T, .code body :: .inLoop body :: k, defers, .run, kind, ro⟩, callers, h⟩
  | .region _ ops draw => match draw with
    | true => match drawRK P X sub ops n T h with
      | some (T, h) => some ⟨⟨fn, n, T, k, defers, .run, kind, ro⟩, callers, h⟩
      | none => none
    | false => some ⟨⟨fn, n, T, .inRegion ops ops.toList :: k, defers, .run, kind, ro⟩, callers, h⟩
  | c => stepA P X sub ⟨⟨fn, n, T, .code c :: k, defers, .run, kind, ro⟩, callers, h⟩

def stepK (sub : AH → FuncId → List Value → Option (Value × AH)) (s : AS) : Option AS :=
  match s with
  | ⟨⟨fn, n, T, todo, defers, mode, kind, ro⟩, callers, h⟩ =>
    match mode with
    | .run => match todo with
      | [] => stepA P X sub ⟨⟨fn, n, T, [], defers, .run, kind, ro⟩, callers, h⟩
      | it :: k => match it with
        | .code c => codeK P X sub fn n T c k defers kind ro callers h
        | .inRegion ops l => match l with
          | [] => some ⟨⟨fn, n, T, k, defers, .run, kind, ro⟩, callers, h⟩
          | o :: rest => operK P X fn n T ops o rest k defers kind ro callers h
        | .inBlock _ => some ⟨⟨fn, n, T, k, defers, .run, kind, ro⟩, callers, h⟩
        | .inLoop body => some ⟨⟨fn, n, T, .code body :: .inLoop body :: k, defers, .run, kind, ro⟩, callers, h⟩
        | it => stepA P X sub ⟨⟨fn, n, T, it :: k, defers, .run, kind, ro⟩, callers, h⟩
    | mode => stepA P X sub ⟨⟨fn, n, T, todo, defers, mode, kind, ro⟩, callers, h⟩

theorem operK_eq (sub : AH → FuncId → List Value → Option (Value × AH)) (fn n : Nat) (T : PT Value) (ops : Array Oper) (o : Oper) (rest : List Oper) (k : List AItem) (defers : List Deferred) (kind : CallKind) (ro : Option Nat) (callers : List AFrame) (h : AH) :
    operK P X fn n T ops o rest k defers kind ro callers h = stepA P X sub ⟨⟨fn, n, T, .inRegion ops (o :: rest) :: k, defers, .run, kind, ro⟩, callers, h⟩ := by
  have hev : evK T = AFrame.eval ⟨fn, n, T, .inRegion ops (o :: rest) :: k, defers, .run, kind, ro⟩ := evK_eq ⟨fn, n, T, .inRegion ops (o :: rest) :: k, defers, .run, kind, ro⟩
  have hs : stepA P X sub ⟨⟨fn, n, T, .inRegion ops (o :: rest) :: k, defers, .run, kind, ro⟩, callers, h⟩ =
    cond (wantedA ops T o) ((execA P X h (AFrame.eval ⟨fn, n, T, .inRegion ops (o :: rest) :: k, defers, .run, kind, ro⟩) o).bind fun nx => afterA P ⟨fn, n, T, .inRegion ops (o :: rest) :: k, defers, .run, kind, ro⟩ callers nx)
      ((finishA ⟨fn, n, T, .inRegion ops (o :: rest) :: k, defers, .run, kind, ro⟩ undef).map fun fr => { fr, callers, h }) := rfl
  rw [hs]
  unfold operK
  rw [hev, execK_eq, nextK_eq, finK_eq]
  cases hg : o.guard with
  | none =>
    have : wantedA ops T o = true := by unfold wantedA; rw [hg]
    rw [this]; rfl
  | some g => simp only []; cases wantedA ops T o <;> rfl

theorem codeK_eq (sub : AH → FuncId → List Value → Option (Value × AH)) (fn n : Nat) (T : PT Value) (c : Code) (k : List AItem) (defers : List Deferred) (kind : CallKind) (ro : Option Nat) (callers : List AFrame) (h : AH) :
    codeK P X sub fn n T c k defers kind ro callers h = stepA P X sub ⟨⟨fn, n, T, .code c :: k, defers, .run, kind, ro⟩, callers, h⟩ := by
  cases c <;> try rfl
  case region id ops draw =>
    cases draw with
    | false => rfl
    | true =>
      have h2 : stepA P X sub ⟨⟨fn, n, T, .code (.region id ops true) :: k, defers, .run, kind, ro⟩, callers, h⟩ =
        (drawR P X sub ops n T h).map fun (x : PT Value × AH) => (⟨⟨fn, n, x.1, k, defers, .run, kind, ro⟩, callers, x.2⟩ : AS) := rfl
      rw [h2]
      unfold codeK
      simp only [drawRK_eq]
      cases drawR P X sub ops n T h <;> rfl
  case cond o a b =>
    have hev : evK T o = AFrame.eval ⟨fn, n, T, .code (.cond o a b) :: k, defers, .run, kind, ro⟩ o := by rw [← evK_eq]
    show (match evK T o with | .bool t => _ | _ => none) = match AFrame.eval ⟨fn, n, T, .code (.cond o a b) :: k, defers, .run, kind, ro⟩ o with | .bool t => _ | _ => none
    rw [hev]
    cases AFrame.eval ⟨fn, n, T, .code (.cond o a b) :: k, defers, .run, kind, ro⟩ o <;> try rfl
    rename_i t; cases t <;> rfl

theorem stepK_eq (sub : AH → FuncId → List Value → Option (Value × AH)) (s : AS) : stepK P X sub s = stepA P X sub s := by
  obtain ⟨⟨fn, n, T, todo, defers, mode, kind, ro⟩, callers, h⟩ := s
  cases mode <;> try rfl
  cases todo with
  | nil => rfl
  | cons it k =>
    cases it <;> try rfl
    case code c => exact codeK_eq P X sub fn n T c k defers kind ro callers h
    case inRegion ops l =>
      cases l with
      | nil => rfl
      | cons o rest => exact operK_eq P X sub fn n T ops o rest k defers kind ro callers h

def contK (ih : AS → AS) (s : AS) : AS :=
  match s.fr.mode with
  | .run => match stepK P X (fun h f args => match enterA P f args .normal with
        | some fr => answerOf P f (ih { fr, callers := [], h })
        | none => none) s with
    | some s' => ih s'
    | none => s
  | _ => cond (isEnd s) s (match stepK P X (fun h f args => match enterA P f args .normal with
        | some fr => answerOf P f (ih { fr, callers := [], h })
        | none => none) s with
     | some s' => ih s'
     | none => s)

def runK (n : Nat) : AS → AS := @Nat.rec (fun _ => AS → AS) (fun s => s) (fun _ ih s => contK P X ih s) n

theorem runK_eq (n : Nat) : ∀ s, runK P X n s = runA P X n s := by
  induction n with
  | zero => intro s; rfl
  | succ n ih =>
    intro s
    have h1 : runK P X (n + 1) s = contK P X (runK P X n) s := rfl
    have h2 : runA P X (n + 1) s = cond (isEnd s) s (match stepA P X (fun h f args => match enterA P f args .normal with
        | some fr => answerOf P f (runA P X n { fr, callers := [], h })
        | none => none) s with
      | some s' => runA P X n s'
      | none => s) := rfl
    rw [h1, h2, ← funext ih]
    unfold contK
    rw [stepK_eq]
    cases hm : s.fr.mode with
    | run =>
      have : isEnd s = false := by unfold isEnd; rw [hm]
      rw [this]; rfl
    | _ => rfl
end
end
end Go.AM

namespace Go.AM
open Go

/-! ## the same machine once more: each function closed, its surroundings handed on behind what is looked into: so the kernel copies little -/
noncomputable section
abbrev XT := FuncId → List Value → Option Value
abbrev OpT := Program → XT → AH → (Operand → Value) → Oper → Option ANext

/-! ### tries -/
def gNil (α : Type) : Nat → Option α := fun _ => none
def gNode (α : Type) : PT α → Option α → PT α → (Nat → Option α) → (Nat → Option α) → Nat → Option α :=
  fun _ v _ l r n => @Bool.rec (fun _ => Option α) (@Bool.rec (fun _ => Option α) (r (Nat.sub (Nat.div n (nat_lit 2)) (nat_lit 1))) (l (Nat.div n (nat_lit 2))) (Nat.beq (Nat.mod n (nat_lit 2)) (nat_lit 1))) v (Nat.beq n (nat_lit 0))
def gV (t : PT Value) : Nat → Option Value := @PT.rec Value (fun _ => Nat → Option Value) (gNil Value) (gNode Value) t
def gO (t : PT AObj) : Nat → Option AObj := @PT.rec AObj (fun _ => Nat → Option AObj) (gNil AObj) (gNode AObj) t
def gF (t : PT Fam) : Nat → Option Fam := @PT.rec Fam (fun _ => Nat → Option Fam) (gNil Fam) (gNode Fam) t
theorem gV_eq (t : PT Value) : gV t = t.getK := rfl
theorem gO_eq (t : PT AObj) : gO t = t.getK := rfl
theorem gF_eq (t : PT Fam) : gF t = t.getK := rfl

def valUn (o : Option Value) : Value := @Option.rec Value (fun _ => Value) undef (fun v => v) o
def gT (T : PT Value) (t : Nat) : Value := valUn (gV T t)
theorem gT_eq (T : PT Value) (t : Nat) : gT T t = getV T t := rfl

def ev1 : Tmp → PT Value → Value := fun t T => gT T t
def ev2 : Value → PT Value → Value := fun v _ => v
def ev3 : Nat → PT Value → Value := fun g _ => .pointer (some ⟨g, 0, none⟩)
def ev4 : FuncId → PT Value → Value := fun f _ => .func (.func f) #[] #[]
def evC (T : PT Value) (o : Operand) : Value := @Operand.rec (fun _ => PT Value → Value) ev1 ev2 ev3 ev4 o T
theorem evC_eq (T : PT Value) : evC T = evK T := by funext o; cases o <;> rfl

/-! ### what a value is -/
def asPtr (v : Value) : Option Addr := @Value.rec (fun _ => Option Addr) (fun _ => Unit) (fun _ => Unit) (fun _ => none) (fun _ _ => none) (fun _ _ => none) (fun _ _ _ => none) (fun _ => none) (fun a => a) (fun _ _ _ => none) (fun _ => none) (fun _ => none)
  (fun _ _ _ _ _ => none) none (fun _ _ _ => none) none (fun _ _ => none) (fun _ _ => none) (fun _ _ => ()) () (fun _ _ _ _ => ()) v
theorem asPtr_some {v : Value} {a : Addr} (h : asPtr v = some a) : v = .pointer (some a) := by
  cases v <;> first | (cases h; done) | skip
  rename_i b
  have h' : b = some a := h
  rw [h']
theorem asPtr_none {v : Value} (h : asPtr v = none) : ∀ a, v ≠ .pointer (some a) := by
  rintro a rfl; cases h

def intNat : IntKind → Int → Option (IntKind × Nat) := fun k n => @Int.rec (fun _ => IntKind → Option (IntKind × Nat)) (fun a k => some (k, a)) (fun _ _ => none) n k
def asNat (v : Value) : Option (IntKind × Nat) := @Value.rec (fun _ => Option (IntKind × Nat)) (fun _ => Unit) (fun _ => Unit) (fun _ => none) intNat (fun _ _ => none) (fun _ _ _ => none) (fun _ => none) (fun _ => none) (fun _ _ _ => none) (fun _ => none) (fun _ => none)
  (fun _ _ _ _ _ => none) none (fun _ _ _ => none) none (fun _ _ => none) (fun _ _ => none) (fun _ _ => ()) () (fun _ _ _ _ => ()) v
theorem asNat_some {v : Value} {p : IntKind × Nat} (h : asNat v = some p) : v = .int p.1 (.ofNat p.2) := by
  cases v <;> first | (cases h; done) | skip
  rename_i k n
  cases n with
  | ofNat a => have h' : some (k, a) = some p := h; cases h'; rfl
  | negSucc a => cases h

def asBool (v : Value) : Option Bool := @Value.rec (fun _ => Option Bool) (fun _ => Unit) (fun _ => Unit) (fun b => some b) (fun _ _ => none) (fun _ _ => none) (fun _ _ _ => none) (fun _ => none) (fun _ => none) (fun _ _ _ => none) (fun _ => none) (fun _ => none)
  (fun _ _ _ _ _ => none) none (fun _ _ _ => none) none (fun _ _ => none) (fun _ _ => none) (fun _ _ => ()) () (fun _ _ _ _ => ()) v
theorem asBool_some {v : Value} {b : Bool} (h : asBool v = some b) : v = .bool b := by
  cases v <;> first | (cases h; done) | skip
  cases h; rfl

def slAt : Option Addr → Nat → Nat → Option (Addr × Nat) := fun a n _ => @Option.rec Addr (fun _ => Nat → Option (Addr × Nat)) (fun _ => none) (fun a n => some (a, n)) a n
def asSl (v : Value) : Option (Addr × Nat) := @Value.rec (fun _ => Option (Addr × Nat)) (fun _ => Unit) (fun _ => Unit) (fun _ => none) (fun _ _ => none) (fun _ _ => none) (fun _ _ _ => none) (fun _ => none) (fun _ => none) slAt (fun _ => none) (fun _ => none)
  (fun _ _ _ _ _ => none) none (fun _ _ _ => none) none (fun _ _ => none) (fun _ _ => none) (fun _ _ => ()) () (fun _ _ _ _ => ()) v
theorem asSl_some {v : Value} {p : Addr × Nat} (h : asSl v = some p) : ∃ c, v = .slice (some p.1) p.2 c := by
  cases v <;> first | (cases h; done) | skip
  rename_i a n c
  cases a with
  | none => cases h
  | some a => have h' : some (a, n) = some p := h; cases h'; exact ⟨c, rfl⟩

/-! ### memory -/
def nNil : Nat → Option Value := fun _ => none
def nSucc (ih : Nat → Option Value) : Nat → Option Value → Option Value := fun m _ => ih m
def nCons : Value → List Value → (Nat → Option Value) → Nat → Option Value := fun a _ ih n => @Nat.rec (fun _ => Option Value) (some a) (nSucc ih) n
def nth (l : List Value) : Nat → Option Value := @List.rec Value (fun _ => Nat → Option Value) nNil nCons l
theorem nth_eq (l : List Value) : nth l = nthK l := rfl

def famYes : Fam → Nat → List Value → Nat → Option Value := fun F b cs off => @Bool.rec (fun _ => List Value → Nat → Option Value) (fun _ _ => none) nth (@Bool.rec (fun _ => Bool) F.oldAlive true (Nat.beq F.head b)) cs off
def famNo : Nat → List Value → Nat → Option Value := fun _ cs off => nth cs off
def cellRow : List Value → Nat → Nat → Nat → Nat → AH → Nat → Nat → Option Value := fun cs _ _ fam _ h b off => @Option.rec Fam (fun _ => Nat → List Value → Nat → Option Value) famNo famYes (gF h.fams fam) b cs off
def cellObj : AObj → AH → Nat → Nat → Option Value := fun o => @AObj.rec (fun _ => AH → Nat → Nat → Option Value) cellRow (fun _ _ _ _ _ => none) (fun _ _ _ _ _ _ _ _ _ _ _ _ => none) (fun _ _ _ _ => none) (fun _ _ _ _ _ => none) (fun _ _ _ _ _ _ _ => none) o
def cellC (h : AH) (b off : Nat) : Option Value := @Option.rec AObj (fun _ => AH → Nat → Nat → Option Value) (fun _ _ _ => none) cellObj (gO h.tree b) h b off
theorem cellC_eq (h : AH) (b off : Nat) : cellC h b off = h.cellAt b off := by
  rw [← cellK_eq]
  obtain ⟨tree, fams, next⟩ := h
  unfold cellC cellK
  rw [gO_eq]
  simp only []
  cases tree.getK b with
  | none => rfl
  | some o =>
    cases o <;> try rfl
    rename_i cs n es fam d
    show @Option.rec Fam (fun _ => Nat → List Value → Nat → Option Value) famNo famYes (gF fams fam) b cs off = _
    rw [gF_eq]
    simp only []
    cases fams.getK fam with
    | none => rfl
    | some F =>
      show famYes F b cs off = _
      unfold famYes
      simp only []
      cases Nat.beq F.head b with
      | true => rfl
      | false => cases F.oldAlive <;> rfl

def oNil : Value → Nat → List Value := fun _ _ => []
def oSucc (a : Value) (ih : Value → Nat → List Value) (v : Value) : Nat → List Value → List Value := fun m _ => a :: ih v m
def oCons : Value → List Value → (Value → Nat → List Value) → Value → Nat → List Value := fun a l ih v n => @Nat.rec (fun _ => List Value) (v :: l) (oSucc a ih v) n
def overC (cs : List Value) (v : Value) (n : Nat) : List Value := @List.rec Value (fun _ => Value → Nat → List Value) oNil oCons cs v n
theorem overC_eq (cs : List Value) (v : Value) : ∀ n, overC cs v n = over1 cs v n := by
  induction cs with
  | nil => intro n; rfl
  | cons a l ih => intro n; cases n with
    | zero => rfl
    | succ n => show a :: overC l v n = a :: over1 l v n; rw [ih]

def sLeaf (α : Type) (ih : PT α → Nat → α → PT α) : Nat → α → PT α := fun n x =>
  @Bool.rec (fun _ => PT α) (@Bool.rec (fun _ => PT α) (.node .leaf none (ih .leaf (Nat.sub (Nat.div n (nat_lit 2)) (nat_lit 1)) x)) (.node (ih .leaf (Nat.div n (nat_lit 2)) x) none .leaf) (Nat.beq (Nat.mod n (nat_lit 2)) (nat_lit 1))) (.node .leaf (some x) .leaf) (Nat.beq n (nat_lit 0))
def sNode (α : Type) (l : PT α) (v : Option α) (r : PT α) (ih : PT α → Nat → α → PT α) : Nat → α → PT α := fun n x =>
  @Bool.rec (fun _ => PT α) (@Bool.rec (fun _ => PT α) (.node l v (ih r (Nat.sub (Nat.div n (nat_lit 2)) (nat_lit 1)) x)) (.node (ih l (Nat.div n (nat_lit 2)) x) v r) (Nat.beq (Nat.mod n (nat_lit 2)) (nat_lit 1))) (.node l (some x) r) (Nat.beq n (nat_lit 0))
def sZero (α : Type) : PT α → Nat → α → PT α := fun t _ _ => t
def sL (α : Type) : (PT α → Nat → α → PT α) → Nat → α → PT α := fun ih n x => sLeaf α ih n x
def sN (α : Type) : PT α → Option α → PT α → ((PT α → Nat → α → PT α) → Nat → α → PT α) → ((PT α → Nat → α → PT α) → Nat → α → PT α) → (PT α → Nat → α → PT α) → Nat → α → PT α := fun l v r _ _ ih n x => sNode α l v r ih n x
def sSucc (α : Type) : Nat → (PT α → Nat → α → PT α) → PT α → Nat → α → PT α := fun _ ih t n x => @PT.rec α (fun _ => (PT α → Nat → α → PT α) → Nat → α → PT α) (sL α) (sN α) t ih n x
def setV (t : PT Value) (n : Nat) (x : Value) : PT Value := @Nat.rec (fun _ => PT Value → Nat → Value → PT Value) (sZero Value) (sSucc Value) (nat_lit 64) t n x
def setO (t : PT AObj) (n : Nat) (x : AObj) : PT AObj := @Nat.rec (fun _ => PT AObj → Nat → AObj → PT AObj) (sZero AObj) (sSucc AObj) (nat_lit 64) t n x
theorem set_eq (α : Type) (f : Nat) : ∀ (t : PT α) (n : Nat) (x : α), @Nat.rec (fun _ => PT α → Nat → α → PT α) (sZero α) (sSucc α) f t n x = PT.setK f t n x := by
  induction f with
  | zero => intro t n x; rfl
  | succ f ih =>
    intro t n x
    have ih' : (@Nat.rec (fun _ => PT α → Nat → α → PT α) (sZero α) (sSucc α) f) = PT.setK f := by funext t n x; exact ih t n x
    show sSucc α f (@Nat.rec (fun _ => PT α → Nat → α → PT α) (sZero α) (sSucc α) f) t n x = _
    rw [ih']
    cases t <;> rfl
theorem setV_eq (t : PT Value) (n : Nat) (x : Value) : setV t n x = PT.setK 64 t n x := set_eq Value 64 t n x
theorem setO_eq (t : PT AObj) (n : Nat) (x : AObj) : setO t n x = PT.setK 64 t n x := set_eq AObj 64 t n x

/-- a store into a row without a family; else it is said that there is none. -/
def stFam : List Value → Nat → Nat → Nat → AH → Nat → Nat → Value → Option AH := fun cs size es fam h b off v => some ⟨setO h.tree b (.row (overC cs v off) size es fam (nat_lit 0)), h.fams, h.next⟩
def stNone : List Value → Nat → Nat → Nat → Nat → AH → Nat → Nat → Value → Option AH := fun cs size es fam delta h b off v => some ⟨setO h.tree b (.row (overC cs v off) size es fam delta), h.fams, h.next⟩
def stIn : List Value → Nat → Nat → Nat → Nat → AH → Nat → Nat → Value → Option AH := fun cs size es fam delta h b off v => @Option.rec Fam (fun _ => List Value → Nat → Nat → Nat → Nat → AH → Nat → Nat → Value → Option AH) stNone (fun _ _ _ _ _ _ _ _ _ _ => none) (gF h.fams fam) cs size es fam delta h b off v
def stRow : List Value → Nat → Nat → Nat → Nat → AH → Nat → Nat → Value → Option AH := fun cs size es fam delta h b off v => @Bool.rec (fun _ => List Value → Nat → Nat → Nat → Nat → AH → Nat → Nat → Value → Option AH) (fun _ _ _ _ _ _ _ _ _ => none) stIn (Nat.ble (Nat.succ off) size) cs size es fam delta h b off v
def stObj : AObj → AH → Nat → Nat → Value → Option AH := fun o => @AObj.rec (fun _ => AH → Nat → Nat → Value → Option AH) stRow (fun _ _ _ _ _ _ => none) (fun _ _ _ _ _ _ _ _ _ _ _ _ _ => none) (fun _ _ _ _ _ => none) (fun _ _ _ _ _ _ => none) (fun _ _ _ _ _ _ _ _ => none) o
def stGo : AH → Nat → Nat → Value → Option AH := fun h b off v => @Option.rec AObj (fun _ => AH → Nat → Nat → Value → Option AH) (fun _ _ _ _ => none) stObj (gO h.tree b) h b off v
def stNo : AH → Nat → Nat → Value → Option AH := fun _ _ _ _ => none
def stSome : Nat → AH → Nat → Nat → Value → Option AH := fun n h b off v =>
  @Bool.rec (fun _ => AH → Nat → Nat → Value → Option AH) stNo stGo (@Bool.rec (fun _ => Bool) false (@Bool.rec (fun _ => Bool) false (Nat.ble (nat_lit 1000) b) (plainCell v)) (Nat.beq n (nat_lit 1))) h b off v
def storeC (h : AH) (b off : Nat) (sz : Option Nat) (v : Value) : Option AH := @Option.rec Nat (fun _ => AH → Nat → Nat → Value → Option AH) stNo stSome sz h b off v

theorem storeC_eq (h : AH) (b off : Nat) (sz : Option Nat) (v : Value) : storeC h b off sz v = storeK h b off sz v := by
  cases sz with
  | none => rfl
  | some n =>
    show stSome n h b off v = _
    unfold stSome storeK
    simp only []
    cases Nat.beq n 1 <;> try rfl
    simp only []
    cases plainCell v <;> try rfl
    simp only []
    cases Nat.ble 1000 b <;> try rfl
    obtain ⟨tree, fams, next⟩ := h
    show stGo ⟨tree, fams, next⟩ b off v = _
    unfold stGo
    rw [gO_eq]
    simp only []
    cases tree.getK b with
    | none => rfl
    | some o =>
      cases o <;> try rfl
      rename_i cs size es fam delta
      show stRow cs size es fam delta ⟨tree, fams, next⟩ b off v = _
      unfold stRow
      simp only []
      cases Nat.ble (Nat.succ off) size <;> try rfl
      show stIn cs size es fam delta ⟨tree, fams, next⟩ b off v = _
      unfold stIn
      rw [gF_eq]
      simp only []
      cases fams.getK fam with
      | none => show stNone cs size es fam delta ⟨tree, fams, next⟩ b off v = _; unfold stNone; rw [setO_eq, overC_eq]
      | some F => rfl

def nrYes : AH → List Value → Nat → Nat → Option (AH × Nat) := fun h cs size es => some (⟨setO h.tree h.next (.row cs size es h.next (nat_lit 0)), h.fams, Nat.succ h.next⟩, h.next)
def nrNo : AH → List Value → Nat → Nat → Option (AH × Nat) := fun _ _ _ _ => none
def plainAll (l : List Value) : Bool := @List.rec Value (fun _ => Bool) true (fun v _ ih => @Bool.rec (fun _ => Bool) false ih (plainCell v)) l
theorem plainAll_eq (l : List Value) : plainAll l = l.all plainCell := by
  induction l with
  | nil => rfl
  | cons v l ih => show @Bool.rec (fun _ => Bool) false (plainAll l) (plainCell v) = _; rw [ih, List.all_cons]; cases plainCell v <;> rfl
def newRowC (h : AH) (cs : List Value) (size es : Nat) : Option (AH × Nat) :=
  @Bool.rec (fun _ => AH → List Value → Nat → Nat → Option (AH × Nat)) nrNo nrYes (@Bool.rec (fun _ => Bool) false (@Bool.rec (fun _ => Bool) false (plainAll cs) (Nat.beq cs.length size)) (Nat.blt h.next (nat_lit 1000000000))) h cs size es
theorem newRowC_eq (h : AH) (cs : List Value) (size es : Nat) : newRowC h cs size es = h.newRow cs size es := by
  rw [← newRowK_eq]
  obtain ⟨tree, fams, next⟩ := h
  unfold newRowC newRowK
  rw [plainAll_eq]
  simp only []
  have hq : (1000000000 : Nat) = nat_lit 1000000000 := rfl
  rw [hq]
  cases Nat.blt next (nat_lit 1000000000) <;> cases Nat.beq cs.length size <;> cases cs.all plainCell <;> try rfl
  show some (_, _) = some (_, _)
  rw [setO_eq]
end
end Go.AM

namespace Go.AM
open Go

noncomputable section

/-! ### tables, looked into by plain recursion -/
def tNil (α : Type) : Nat → Option α := fun _ => none
def tSucc (α : Type) (ih : Nat → Option α) : Nat → Option α → Option α := fun m _ => ih m
def tCons (α : Type) : α → List α → (Nat → Option α) → Nat → Option α := fun a _ ih n => @Nat.rec (fun _ => Option α) (some a) (tSucc α ih) n
def tNth (α : Type) (l : List α) : Nat → Option α := @List.rec α (fun _ => Nat → Option α) (tNil α) (tCons α) l
theorem tNth_eq (α : Type) (l : List α) (n : Nat) : tNth α l n = l[n]? := nthK_eq l n
def inYes : TypeInfo → Program → TypeId → Option TypeInfo := fun i _ _ => some i
def infoC (P : Program) (t : TypeId) : Option TypeInfo := @Option.rec TypeInfo (fun _ => Program → TypeId → Option TypeInfo) (fun P t => P.info? t) inYes (tNth TypeInfo P.types.toList t) P t
def funcC (P : Program) (f : FuncId) : Option Func := tNth Func P.funcs.toList f
theorem infoC_eq (P : Program) (t : TypeId) : infoC P t = P.info? t := by
  unfold infoC
  rw [tNth_eq]
  cases h : P.types.toList[t]? with
  | none => rfl
  | some i =>
    show some i = Tables.info? P.toTables t
    unfold Tables.info?
    rw [Array.getElem?_toList] at h
    have hlt : t < P.types.size := (Array.getElem?_eq_some_iff.1 h).1
    rw [if_pos hlt, h]
theorem funcC_eq (P : Program) (f : FuncId) : funcC P f = P.funcs[f]? := by
  unfold funcC; rw [tNth_eq]; simp
def underC (P : Program) (t : TypeId) : Option TypeDesc :=
  match infoC P t with
  | some { desc := .named _ u, .. } => (infoC P u).map (·.desc)
  | some i => some i.desc
  | none => none
theorem underC_eq (P : Program) (t : TypeId) : underC P t = P.underlying t := by
  unfold underC Program.underlying; rw [infoC_eq]
  simp only [infoC_eq]
  rfl
def sizeOfC (P : Program) (t : TypeId) : Option Nat := (infoC P t).map (·.size)
theorem sizeOfC_eq (P : Program) (t : TypeId) : sizeOfC P t = sizeOf P t := by unfold sizeOfC sizeOf; rw [infoC_eq]
def isAggC (P : Program) (t : TypeId) : Bool :=
  match underC P t with
  | some (.struct _) => true
  | some (.array _ _) => true
  | _ => false
theorem isAggC_eq (P : Program) (t : TypeId) : isAggC P t = isAgg P t := by unfold isAggC isAgg; rw [underC_eq]; rfl
def zeroValC (P : Program) (t : TypeId) : Option Value :=
  match infoC P t with
  | some i => match i.zero with
    | some z => cond (flat z) (some z) none
    | none => none
  | none => none
def zeroCellsC (P : Program) (t : TypeId) : Option (List Value) := (zeroValC P t).map fun z => z.cells.toList
theorem zeroCellsC_eq (P : Program) (t : TypeId) : zeroCellsC P t = zeroCells P t := by unfold zeroCellsC zeroCells zeroValC zeroVal; rw [infoC_eq]; rfl
def fieldOffC (P : Program) (s : TypeId) (f : Nat) : Option Nat :=
  match underC P s with
  | some (.struct fields) => (tNth Field fields.toList f).bind fun fd => (sizeOfC P fd.type).bind fun n => cond (Nat.beq n 0) none (some fd.offset)
  | _ => none
theorem fieldOffC_eq (P : Program) (s : TypeId) (f : Nat) : fieldOffC P s f = fieldOff P s f := by
  unfold fieldOffC fieldOff; rw [underC_eq]
  simp only [sizeOfC_eq, tNth_eq, Array.getElem?_toList]
  try rfl
def elemSizeC (P : Program) (t : TypeId) : Option Nat :=
  match underC P t with
  | some (.slice e) => sizeOfC P e
  | _ => none
theorem elemSizeC_eq (P : Program) (t : TypeId) : elemSizeC P t = elemSize P t := by
  unfold elemSizeC elemSize; rw [underC_eq]
  simp only [sizeOfC_eq]
  try rfl
def scalarC (P : Program) (t : TypeId) : Bool := (underC P t).isSome && !(isAggC P t)
theorem scalarC_eq (P : Program) (t : TypeId) : scalarC P t = scalar P t := by unfold scalarC scalar; rw [underC_eq, isAggC_eq]
def intDstC (P : Program) (s d : TypeId) : Option IntKind :=
  match underC P s, underC P d with
  | some _, some (.int k) => some k
  | _, _ => none
def lenC (P : Program) (t : TypeId) (h : AH) (x : Value) : Option Nat :=
  match underC P t, x with
  | some .string, .string s => some s.size
  | some (.array n _), _ => some n
  | some (.pointer arr), _ => match P.underlying arr with | some (.array n _) => some n | _ => none
  | some (.slice _), .slice _ n _ => some n
  | some (.map _ _), .map none => some 0
  | some (.map _ _), .map (some r) => match h.tree.get r with | some (.map es _) => some es.length | _ => none
  | _, _ => none
theorem lenC_eq (P : Program) (t : TypeId) (h : AH) (x : Value) : lenC P t h x = lenA P t h x := by unfold lenC lenA; rw [underC_eq]; rfl
def callC (P : Program) (X : XT) (h : AH) (f : FuncId) (args : List Value) : Option ANext :=
  match funcC P f with
  | some fn => cond fn.body.isSome (some (.enter f args h)) ((X f args).map fun v => .value v h)
  | none => none
theorem callC_eq (P : Program) (X : XT) (h : AH) (f : FuncId) (args : List Value) : callC P X h f args = callA P X h f args := by unfold callC callA; rw [funcC_eq]; rfl

/-! ### operations -/
def slowOp : OpT := fun P X h ρ o => opA P X h ρ o
def noOp : OpT := fun _ _ _ _ _ => none

def valC : Option Value → AH → Option ANext := fun ov h => @Option.rec Value (fun _ => AH → Option ANext) (fun _ => none) (fun v h => some (.value v h)) ov h

def aMove : Operand → OpT := fun x _ _ h ρ _ => some (.value (ρ x) h)

def ldAt : Addr → AH → Option ANext := fun a h => valC (cellC h a.block a.off) h
def ldYes : Operand → OpT := fun a _ _ h ρ _ => @Option.rec Addr (fun _ => AH → Option ANext) (fun _ => none) ldAt (asPtr (ρ a)) h
def ldNo : Operand → OpT := fun _ P X h ρ o => opA P X h ρ o
def aLoad : TypeId → Operand → OpT := fun t a P X h ρ o => @Bool.rec (fun _ => Operand → OpT) ldNo ldYes (scalarC P t) a P X h ρ o

def skYes : AH → OpT := fun h' _ _ _ _ _ => some (.skip h')
def stAt : Addr → TypeId → Operand → OpT := fun a t x P X h ρ o => @Option.rec AH (fun _ => OpT) slowOp skYes (storeC h a.block a.off (sizeOfC P t) (ρ x)) P X h ρ o
def aStore : TypeId → Operand → Operand → OpT := fun t a x P X h ρ o => @Option.rec Addr (fun _ => TypeId → Operand → OpT) (fun _ _ _ _ _ _ _ => none) stAt (asPtr (ρ a)) t x P X h ρ o

def faAt : Addr → Nat → AH → Option ANext := fun a off h => some (.value (.pointer (some ⟨a.block, Nat.add a.off off, none⟩)) h)
def faYes : Nat → Operand → OpT := fun off x _ _ h ρ _ => @Option.rec Addr (fun _ => Nat → AH → Option ANext) (fun _ _ => none) faAt (asPtr (ρ x)) off h
def faNo : Operand → OpT := fun _ P X h ρ o => opA P X h ρ o
def aFieldAddr : TypeId → Operand → Nat → OpT := fun s x f P X h ρ o => @Option.rec Nat (fun _ => Operand → OpT) faNo faYes (fieldOffC P s f) x P X h ρ o

def ncYes : Addr → OpT := fun a _ _ h _ _ => some (.value (.pointer (some a)) h)
def aNilCheck : Operand → OpT := fun x P X h ρ o => @Option.rec Addr (fun _ => OpT) slowOp ncYes (asPtr (ρ x)) P X h ρ o

/-- the operators, with closed ways. -/
abbrev B2 := IntKind → Nat → Nat → Option Value
def b2No : B2 := fun _ _ _ => none
def b2Add : B2 := fun k a b => @Bool.rec (fun _ => Option Value) none (some (.int k (.ofNat (Nat.add a b)))) (Nat.ble (Nat.add a b) (topK k))
def b2Sub : B2 := fun k a b => @Bool.rec (fun _ => Option Value) none (@Bool.rec (fun _ => Option Value) none (some (.int k (.ofNat (Nat.sub a b)))) (Nat.ble a (topK k))) (Nat.ble b a)
def b2Mul : B2 := fun k a b => @Bool.rec (fun _ => Option Value) none (some (.int k (.ofNat (Nat.mul a b)))) (Nat.ble (Nat.mul a b) (topK k))
def b2Eql : B2 := fun _ a b => some (.bool (Nat.beq a b))
def b2Neq : B2 := fun _ a b => some (.bool (@Bool.rec (fun _ => Bool) true false (Nat.beq a b)))
def b2Lss : B2 := fun _ a b => some (.bool (Nat.ble (Nat.succ a) b))
def b2Leq : B2 := fun _ a b => some (.bool (Nat.ble a b))
def b2Gtr : B2 := fun _ a b => some (.bool (Nat.ble (Nat.succ b) a))
def b2Geq : B2 := fun _ a b => some (.bool (Nat.ble b a))
def fast2C (op : BinOp) : B2 := match op with
  | .add => b2Add | .sub => b2Sub | .mul => b2Mul | .eql => b2Eql | .neq => b2Neq | .lss => b2Lss | .leq => b2Leq | .gtr => b2Gtr | .geq => b2Geq | _ => b2No
theorem fast2C_eq (op : BinOp) (k : IntKind) (a b : Nat) : fast2C op k a b = fast2 op k a b := by cases op <;> rfl

def biVal : Value → OpT := fun v _ _ h _ _ => some (.value v h)
def biYes : IntKind × Nat → IntKind × Nat → BinOp → OpT := fun p q op P X h ρ o => @Option.rec Value (fun _ => OpT) slowOp biVal (fast2C op p.1 p.2 q.2) P X h ρ o
def biNo : IntKind × Nat → IntKind × Nat → BinOp → OpT := fun _ _ _ P X h ρ o => opA P X h ρ o
def biR : IntKind × Nat → IntKind × Nat → BinOp → OpT := fun q p op P X h ρ o => @Bool.rec (fun _ => IntKind × Nat → IntKind × Nat → BinOp → OpT) biNo biYes (Nat.beq (kix p.1) (kix q.1)) p q op P X h ρ o
def biRNo : IntKind × Nat → BinOp → OpT := fun _ _ P X h ρ o => opA P X h ρ o
def biL : IntKind × Nat → Operand → BinOp → OpT := fun p y op P X h ρ o => @Option.rec (IntKind × Nat) (fun _ => IntKind × Nat → BinOp → OpT) biRNo biR (asNat (ρ y)) p op P X h ρ o
def biLNo : Operand → BinOp → OpT := fun _ _ P X h ρ o => opA P X h ρ o
def aBin : BinOp → TypeId → Operand → Operand → TypeId → OpT := fun op _ x y _ P X h ρ o => @Option.rec (IntKind × Nat) (fun _ => Operand → BinOp → OpT) biLNo biL (asNat (ρ x)) y op P X h ρ o

def ixIn : Addr × Nat → Nat → Nat → AH → Option ANext := fun s i n h => some (.value (.pointer (some ⟨s.1.block, Nat.add s.1.off (Nat.mul i n), none⟩)) h)
def ixOut : Addr × Nat → Nat → Nat → AH → Option ANext := fun _ _ _ _ => none
def ixI : IntKind × Nat → Addr × Nat → Nat → OpT := fun p s n _ _ h _ _ => @Bool.rec (fun _ => Addr × Nat → Nat → Nat → AH → Option ANext) ixOut ixIn (Nat.ble (Nat.succ p.2) s.2) s p.2 n h
def ixINo : Addr × Nat → Nat → OpT := fun _ _ P X h ρ o => opA P X h ρ o
def ixS : Addr × Nat → Operand → Nat → OpT := fun s ix n P X h ρ o => @Option.rec (IntKind × Nat) (fun _ => Addr × Nat → Nat → OpT) ixINo ixI (asNat (ρ ix)) s n P X h ρ o
def ixSNo : Operand → Nat → OpT := fun _ _ P X h ρ o => opA P X h ρ o
def ixYes : Nat → Operand → Operand → OpT := fun n x ix P X h ρ o => @Option.rec (Addr × Nat) (fun _ => Operand → Nat → OpT) ixSNo ixS (asSl (ρ x)) ix n P X h ρ o
def ixNo : Operand → Operand → OpT := fun _ _ P X h ρ o => opA P X h ρ o
def aIndexAddr : TypeId → Operand → Operand → OpT := fun t x ix P X h ρ o => @Option.rec Nat (fun _ => Operand → Operand → OpT) ixNo ixYes (elemSizeC P t) x ix P X h ρ o

def pkYes : Bool → Operand → Operand → OpT := fun t a b _ _ h ρ _ => some (.value (@Bool.rec (fun _ => Value) (ρ b) (ρ a) t) h)
def aPick : Operand → Operand → Operand → OpT := fun c a b P X h ρ o => @Option.rec Bool (fun _ => Operand → Operand → OpT) (fun _ _ _ _ _ _ _ => none) pkYes (asBool (ρ c)) a b P X h ρ o

def nwYes : AH × Nat → Option ANext := fun p => some (.value (.pointer (some ⟨p.2, 0, none⟩)) p.1)
def nwC : Option (AH × Nat) → Option ANext := fun r => @Option.rec (AH × Nat) (fun _ => Option ANext) none nwYes r
def aBox : TypeId → Operand → OpT := fun _ x _ _ h ρ _ => nwC (newRowC h (ρ x).cells.toList (ρ x).cells.toList.length (nat_lit 0))
def alYes : List Value → AH → Option ANext := fun z h => nwC (newRowC h z z.length (nat_lit 0))
def aAlloc : TypeId → OpT := fun e P _ h _ _ => @Option.rec (List Value) (fun _ => AH → Option ANext) (fun _ => none) alYes (zeroCellsC P e) h

def aExtract : Operand → Nat → OpT := fun t i _ _ h ρ _ => match ρ t with | .tuple vs => (vs.toList[i]?).map fun v => .value v h | _ => none
def aUn : UnOp → TypeId → Operand → OpT := fun op _ x _ _ h ρ _ => (unA op (ρ x)).map fun v => .value v h
def aMakeFunc : Fn → Array Operand → Array Operand → OpT := fun fn first captured _ _ h ρ _ =>
    match fn with
    | .func f => some (.value (.func (.func f) (first.toList.map ρ).toArray (captured.toList.map ρ).toArray) h)
    | .via t p f q => some (.value (.func (.via t p f q) (first.toList.map ρ).toArray (captured.toList.map ρ).toArray) h)
    | _ => none
def aSlice : TypeId → Operand → Option Operand → Option Operand → Option Operand → OpT := fun t x lo hi mx P _ h ρ _ => (sliceA P h t (ρ x) (optMap ρ lo) (optMap ρ hi) (optMap ρ mx)).map fun v => .value v h
def aMakeIface : TypeId → Operand → OpT := fun t x P _ h ρ _ => match P.underlying t with | some (.interface _) => none | some _ => some (.value (.iface t (ρ x)) h) | none => none

def cvYes : IntKind × Nat → IntKind → OpT := fun p k P X h ρ o => @Bool.rec (fun _ => IntKind → Nat → OpT) (fun _ _ P X h ρ o => opA P X h ρ o) (fun k n _ _ h _ _ => some (.value (.int k (.ofNat n)) h)) (Nat.ble p.2 (topK k)) k p.2 P X h ρ o
def cvNo : IntKind → OpT := fun _ P X h ρ o => opA P X h ρ o
def cvK : IntKind → Operand → OpT := fun k x P X h ρ o => @Option.rec (IntKind × Nat) (fun _ => IntKind → OpT) cvNo cvYes (asNat (ρ x)) k P X h ρ o
def cvKNo : Operand → OpT := fun _ P X h ρ o => opA P X h ρ o
def aConvert : TypeId → TypeId → Operand → OpT := fun s d x P X h ρ o => @Option.rec IntKind (fun _ => Operand → OpT) cvKNo cvK (intDstC P s d) x P X h ρ o

def caFn : Array Value → Array Value → Call → FuncId → OpT := fun first captured c g P X h ρ _ => callC P X h g ((first.toList ++ c.args.toList.map ρ) ++ captured.toList)
def caSlow : Array Value → Array Value → Call → OpT := fun _ _ _ P X h ρ o => opA P X h ρ o
def caVal (v : Value) (c : Call) : OpT := fun P X h ρ o =>
  match v with
  | .func fn first captured => match fn with
    | .func g => caFn first captured c g P X h ρ o
    | _ => opA P X h ρ o
  | _ => opA P X h ρ o
def caLen (c : Call) : OpT := fun P X h ρ o =>
  match c.argTypes.toList, c.args.toList with
  | t :: _, [x] => (lenC P t h (ρ x)).map fun (n : Nat) => ANext.value (.int .i64 (n : Int)) h
  | _, _ => opA P X h ρ o
def aCall : Call → OpT := fun c P X h ρ o =>
  match c.callee with
  | .value f => caVal (ρ f) c P X h ρ o
  | .builtin b => match b with
    | .len => caLen c P X h ρ o
    | _ => builtinA P h b c.argTypes (c.args.toList.map ρ)
  | _ => opA P X h ρ o

def exYes : OpT := fun P X h ρ o => @Op.rec (fun _ => OpT)
  aMove aMove aPick aAlloc aBox (fun _ _ P X h ρ o => opA P X h ρ o) (fun _ _ _ P X h ρ o => opA P X h ρ o) (fun _ _ _ _ P X h ρ o => opA P X h ρ o) aLoad aStore
  (fun _ P X h ρ o => opA P X h ρ o) (fun _ P X h ρ o => opA P X h ρ o) aNilCheck aBin aUn aConvert (fun _ _ P X h ρ o => opA P X h ρ o) aMakeIface aMakeFunc (fun _ _ P X h ρ o => opA P X h ρ o)
  (fun _ _ P X h ρ o => opA P X h ρ o) (fun _ _ _ P X h ρ o => opA P X h ρ o) aSlice aFieldAddr (fun _ _ _ P X h ρ o => opA P X h ρ o) aIndexAddr (fun _ _ _ P X h ρ o => opA P X h ρ o)
  (fun _ _ _ _ P X h ρ o => opA P X h ρ o) (fun _ _ _ _ P X h ρ o => opA P X h ρ o) (fun _ _ _ P X h ρ o => opA P X h ρ o) (fun _ _ _ _ P X h ρ o => opA P X h ρ o) (fun _ _ P X h ρ o => opA P X h ρ o)
  (fun _ _ P X h ρ o => opA P X h ρ o) (fun _ P X h ρ o => opA P X h ρ o) (fun _ _ _ _ P X h ρ o => opA P X h ρ o) aExtract aCall (fun _ P X h ρ o => opA P X h ρ o) (fun _ P X h ρ o => opA P X h ρ o)
  (fun _ P X h ρ o => opA P X h ρ o) (fun _ _ P X h ρ o => opA P X h ρ o) (fun _ _ _ P X h ρ o => opA P X h ρ o) (fun _ _ P X h ρ o => opA P X h ρ o)
  o.op P X h ρ o
def execC (P : Program) (X : XT) (h : AH) (ρ : Operand → Value) (o : Oper) : Option ANext := @Bool.rec (fun _ => OpT) noOp exYes (okOper o) P X h ρ o

theorem asPtr_of {v : Value} {a : Addr} (h : v = .pointer (some a)) : asPtr v = some a := by rw [h]; rfl

theorem exYes_eq (P : Program) (X : XT) (h : AH) (ρ : Operand → Value) (o : Oper) : exYes P X h ρ o = opA P X h ρ o := by
  rw [← opK_eq]
  obtain ⟨dst, op, ty, pos, after, guard⟩ := o
  cases op
  case pick c a b =>
    show aPick c a b P X h ρ ⟨dst, .pick c a b, ty, pos, after, guard⟩ = _
    unfold aPick
    simp only [opK]
    cases hb : asBool (ρ c) with
    | none =>
      split
      · rename_i t ht; rw [ht] at hb; cases hb
      · rfl
    | some t => rw [asBool_some hb]; cases t <;> rfl
  case alloc e =>
    show aAlloc e P X h ρ ⟨dst, .alloc e, ty, pos, after, guard⟩ = _
    unfold aAlloc
    rw [zeroCellsC_eq]
    simp only [opK, newRowK_eq]
    cases zeroCells P e with
    | none => rfl
    | some z =>
      show nwC (newRowC h z z.length 0) = _
      rw [newRowC_eq]
      simp only []
      cases h.newRow z z.length 0 <;> rfl
  case box e x =>
    show aBox e x P X h ρ ⟨dst, .box e x, ty, pos, after, guard⟩ = _
    unfold aBox
    simp only [opK, newRowK_eq]
    rw [newRowC_eq]
    show nwC (h.newRow (ρ x).cells.toList (ρ x).cells.toList.length 0) = _
    cases h.newRow (ρ x).cells.toList (ρ x).cells.toList.length 0 <;> rfl
  case load t a =>
    show aLoad t a P X h ρ ⟨dst, .load t a, ty, pos, after, guard⟩ = _
    unfold aLoad
    rw [scalarC_eq]
    simp only [opK, cellK_eq]
    cases scalar P t with
    | false => rfl
    | true =>
      show ldYes a P X h ρ _ = _
      unfold ldYes
      simp only []
      cases hp : asPtr (ρ a) with
      | none =>
        have := asPtr_none hp
        split
        · rename_i a' ha; exact absurd ha (this _)
        · rfl
      | some a' =>
        rw [asPtr_some hp]
        show valC (cellC h a'.block a'.off) h = _
        rw [cellC_eq]
        simp only []
        cases h.cellAt a'.block a'.off <;> rfl
  case store t a x =>
    show aStore t a x P X h ρ ⟨dst, .store t a x, ty, pos, after, guard⟩ = _
    unfold aStore
    simp only [opK]
    cases hp : asPtr (ρ a) with
    | none =>
      have := asPtr_none hp
      split
      · rename_i a' ha; exact absurd ha (this _)
      · rfl
    | some a' =>
      rw [asPtr_some hp]
      show stAt a' t x P X h ρ _ = _
      unfold stAt
      rw [storeC_eq, sizeOfC_eq]
      simp only []
      cases storeK h a'.block a'.off (Go.AM.sizeOf P t) (ρ x) <;> rfl
  case fieldAddr s x f =>
    show aFieldAddr s x f P X h ρ ⟨dst, .fieldAddr s x f, ty, pos, after, guard⟩ = _
    unfold aFieldAddr
    rw [fieldOffC_eq]
    simp only [opK]
    cases fieldOff P s f with
    | none => rfl
    | some off =>
      show faYes off x P X h ρ _ = _
      unfold faYes
      simp only []
      cases hp : asPtr (ρ x) with
      | none =>
        have := asPtr_none hp
        split
        · rename_i a' ha; exact absurd ha (this _)
        · rfl
      | some a' => rw [asPtr_some hp]; rfl
  case nilCheck x =>
    show aNilCheck x P X h ρ ⟨dst, .nilCheck x, ty, pos, after, guard⟩ = _
    unfold aNilCheck
    simp only [opK]
    cases hp : asPtr (ρ x) with
    | none =>
      have := asPtr_none hp
      split
      · rename_i a' ha; exact absurd ha (this _)
      · rfl
    | some a' => rw [asPtr_some hp]; rfl
  case binOp op t x y yt =>
    show aBin op t x y yt P X h ρ ⟨dst, .binOp op t x y yt, ty, pos, after, guard⟩ = _
    rw [opK_eq]
    unfold aBin
    cases hx : asNat (ρ x) with
    | none => rfl
    | some p =>
      show biL p y op P X h ρ _ = _
      unfold biL
      cases hy : asNat (ρ y) with
      | none => rfl
      | some q =>
        show biR q p op P X h ρ _ = _
        unfold biR
        cases hk : Nat.beq (kix p.1) (kix q.1) with
        | false => rfl
        | true =>
          show biYes p q op P X h ρ _ = _
          unfold biYes
          rw [fast2C_eq]
          cases hf : fast2 op p.1 p.2 q.2 with
          | none => rfl
          | some v =>
            rw [← opK_eq]
            simp only [opK, asNat_some hx, asNat_some hy, binK, hk, hf]
            rfl
  case indexAddr t x ix =>
    show aIndexAddr t x ix P X h ρ ⟨dst, .indexAddr t x ix, ty, pos, after, guard⟩ = _
    unfold aIndexAddr
    rw [elemSizeC_eq]
    simp only [opK]
    cases elemSize P t with
    | none => rfl
    | some n =>
      show ixYes n x ix P X h ρ _ = _
      unfold ixYes
      simp only []
      cases hs : asSl (ρ x) with
      | none =>
        show opA P X h ρ _ = _
        unfold idxK
        split <;> try rfl
        rename_i a' len cap hx
        rw [hx] at hs; cases hs
      | some s =>
        obtain ⟨c, hx⟩ := asSl_some hs
        show ixS s ix n P X h ρ _ = _
        unfold ixS
        cases hi : asNat (ρ ix) with
        | none =>
          show opA P X h ρ _ = _
          rw [hx]
          unfold idxK
          simp only []
          split <;> try rfl
          rename_i k i hi2
          split <;> try rfl
          rw [hi2] at hi; cases hi
        | some p =>
          show ixI p s n P X h ρ _ = _
          unfold ixI
          rw [hx, asNat_some hi]
          unfold idxK
          simp only []
          cases Nat.ble (Nat.succ p.2) s.2 <;> rfl
  case convert s d x =>
    show aConvert s d x P X h ρ ⟨dst, .convert s d x, ty, pos, after, guard⟩ = _
    rw [opK_eq]
    unfold aConvert
    cases hd : intDstC P s d with
    | none => rfl
    | some k =>
      show cvK k x P X h ρ _ = _
      unfold cvK
      cases hx : asNat (ρ x) with
      | none => rfl
      | some p =>
        show cvYes p k P X h ρ _ = _
        unfold cvYes
        cases hb : Nat.ble p.2 (topK k) with
        | false => rfl
        | true =>
          have hv := asNat_some hx
          unfold intDstC at hd
          rw [underC_eq, underC_eq] at hd
          split at hd
          · rename_i u k' h1 h2
            cases hd
            show some (ANext.value (.int k (.ofNat p.2)) h) = _
            simp only [opA, hv, h2, convA, h1]
            rw [wrap_top hb]; rfl
          · cases hd
  case call c =>
    show aCall c P X h ρ ⟨dst, .call c, ty, pos, after, guard⟩ = _
    rw [opK_eq]
    unfold aCall
    cases hc : c.callee with
    | value f =>
      show caVal (ρ f) c P X h ρ _ = _
      unfold caVal
      cases hf : ρ f <;> try rfl
      rename_i fn first captured
      cases fn <;> try rfl
      show caFn first captured c _ P X h ρ _ = _
      unfold caFn
      rw [callC_eq]
      simp only [opA, hc, hf, invokeA]
    | invoke r m => rfl
    | builtin b =>
      have hd : builtinA P h b c.argTypes (c.args.toList.map ρ) = opA P X h ρ ⟨dst, .call c, ty, pos, after, guard⟩ := by simp only [opA, hc]
      cases b <;> try exact hd
      show caLen c P X h ρ _ = _
      unfold caLen
      simp only [lenC_eq]
      split
      · rename_i t _ x ht hx
        simp only [opA, hc, builtinA, ht, hx, List.map_cons, List.map_nil]
      · rfl
  all_goals (rw [opK_eq]; rfl)

theorem execC_eq (P : Program) (X : XT) (h : AH) (ρ : Operand → Value) (o : Oper) : execC P X h ρ o = execA P X h ρ o := by
  unfold execC execA
  cases okOper o with
  | true => exact exYes_eq P X h ρ o
  | false => rfl
end
end Go.AM

namespace Go.AM
open Go

noncomputable section
/-! ### regions that draw -/
def erIn : Bool → Nat → Nat → PT Value → PT Value → Value := fun b w t T0 vals => @Bool.rec (fun _ => Value) (gT T0 t) (gT vals w) b
def erNo : Nat → PT Value → PT Value → Row → Value := fun t T0 _ _ => gT T0 t
def erYes : Nat → Nat → PT Value → PT Value → Row → Value := fun w t T0 vals r => erIn ((preds r.o).any (Nat.beq · w)) w t T0 vals
def er1 : Tmp → List Row → PT Value → PT Value → Row → Value := fun t rs T0 vals r => @Option.rec Nat (fun _ => Nat → PT Value → PT Value → Row → Value) erNo erYes (writer rs t) t T0 vals r
def er2 : Value → List Row → PT Value → PT Value → Row → Value := fun v _ _ _ _ => v
def er3 : Nat → List Row → PT Value → PT Value → Row → Value := fun g _ _ _ _ => .pointer (some ⟨g, 0, none⟩)
def er4 : FuncId → List Row → PT Value → PT Value → Row → Value := fun f _ _ _ _ => .func (.func f) #[] #[]
def erC (rs : List Row) (T0 vals : PT Value) (r : Row) (o : Operand) : Value := @Operand.rec (fun _ => List Row → PT Value → PT Value → Row → Value) er1 er2 er3 er4 o rs T0 vals r
theorem erC_eq (rs : List Row) (T0 vals : PT Value) (r : Row) : erC rs T0 vals r = evalR rs T0 vals r := by
  rw [← evalRK_eq]
  funext o
  cases o <;> try rfl
  rename_i t
  show er1 t rs T0 vals r = match writer rs t with
    | some w => match (preds r.o).any (Nat.beq · w) with | true => getV vals w | false => getV T0 t
    | none => getV T0 t
  unfold er1
  cases writer rs t with
  | none => rfl
  | some w =>
    show erIn ((preds r.o).any (Nat.beq · w)) w t T0 vals = match (preds r.o).any (Nat.beq · w) with | true => getV vals w | false => getV T0 t
    cases (preds r.o).any (Nat.beq · w) <;> rfl

def wnB : Bool → Bool → Bool := fun b want => b == want
def wnYes : Nat × Bool → PT Value → Bool := fun g vals => @Option.rec Bool (fun _ => Bool → Bool) (fun _ => false) wnB (asBool (gT vals g.1)) g.2
def wnC (vals : PT Value) (o : Oper) : Bool := @Option.rec (Nat × Bool) (fun _ => PT Value → Bool) (fun _ => true) wnYes o.guard vals
theorem wnC_eq (vals : PT Value) (o : Oper) : wnC vals o = wantedR vals o := by
  unfold wnC wantedR
  cases o.guard with
  | none => rfl
  | some g =>
    obtain ⟨j, want⟩ := g
    show @Option.rec Bool (fun _ => Bool → Bool) (fun _ => false) wnB (asBool (gT vals j)) want = _
    rw [gT_eq, getV_eq]
    simp only []
    cases vals.get j with
    | none => rfl
    | some v => cases v <;> rfl

abbrev SG := Option (PT Value × AH)
abbrev SGK := PT Value → AH → SG
def s1Val : Value → AH → Row → PT Value → SGK → SG := fun v h' r vals ih => ih (setV vals r.i v) h'
def s1No : Row → PT Value → SGK → SG := fun _ _ _ => none
def s1Next : ANext → Row → PT Value → SGK → SG := fun nx => @ANext.rec (fun _ => Row → PT Value → SGK → SG) s1Val (fun _ _ _ _ => none) (fun _ _ _ _ _ _ => none) (fun _ _ _ _ _ _ _ _ _ _ => none) (fun _ _ _ _ _ => none) (fun _ _ _ _ => none) (fun _ _ _ _ _ => none) nx
def s1Yes : Program → XT → List Row → PT Value → Row → PT Value → AH → SGK → SG := fun P X rs T0 r vals h ih => @Option.rec ANext (fun _ => Row → PT Value → SGK → SG) s1No s1Next (execC P X h (erC rs T0 vals r) r.o) r vals ih
def s1Skip : Program → XT → List Row → PT Value → Row → PT Value → AH → SGK → SG := fun _ _ _ _ r vals h ih => ih (setV vals r.i undef) h
def s1Go : Program → XT → List Row → PT Value → Row → PT Value → AH → SGK → SG := fun P X rs T0 r vals h ih => @Bool.rec (fun _ => Program → XT → List Row → PT Value → Row → PT Value → AH → SGK → SG) s1Skip s1Yes (wnC vals r.o) P X rs T0 r vals h ih
def s1Pass : Program → XT → List Row → PT Value → Row → PT Value → AH → SGK → SG := fun _ _ _ _ _ vals h ih => ih vals h
/-- the stage at which an operation comes first: none of those that have effects. -/
def at0 (P : Program) (r : Row) (j : Nat) : Bool := isEff P r.o || !(Nat.beq r.e0 j)
def sgNil : Program → XT → List Row → PT Value → Nat → PT Value → AH → SG := fun _ _ _ _ _ vals h => some (vals, h)
def sgCons : Row → List Row → (Program → XT → List Row → PT Value → Nat → PT Value → AH → SG) → Program → XT → List Row → PT Value → Nat → PT Value → AH → SG :=
  fun r _ ih P X rs T0 j vals h => @Bool.rec (fun _ => Program → XT → List Row → PT Value → Row → PT Value → AH → SGK → SG) s1Go s1Pass (at0 P r j) P X rs T0 r vals h (ih P X rs T0 j)
def sgC (P : Program) (X : XT) (rs : List Row) (T0 : PT Value) (j : Nat) (l : List Row) (vals : PT Value) (h : AH) : SG :=
  @List.rec Row (fun _ => Program → XT → List Row → PT Value → Nat → PT Value → AH → SG) sgNil sgCons l P X rs T0 j vals h
theorem sgC_eq (P : Program) (X : XT) (rs : List Row) (T0 : PT Value) (j : Nat) (l : List Row) : ∀ vals h, sgC P X rs T0 j l vals h = stageA P X rs T0 j l vals h := by
  induction l with
  | nil => intro vals h; rfl
  | cons r l ih =>
    intro vals h
    have ih' : (sgC P X rs T0 j l) = stageA P X rs T0 j l := by funext vals h; exact ih vals h
    have h1 : sgC P X rs T0 j (r :: l) vals h = @Bool.rec (fun _ => Program → XT → List Row → PT Value → Row → PT Value → AH → SGK → SG) s1Go s1Pass (at0 P r j) P X rs T0 r vals h (sgC P X rs T0 j l) := rfl
    rw [h1, ih', stageA]
    unfold at0
    cases isEff P r.o || !(Nat.beq r.e0 j) with
    | true => rfl
    | false =>
      show s1Go P X rs T0 r vals h (stageA P X rs T0 j l) = cond false _ _
      unfold s1Go
      rw [wnC_eq]
      cases wantedR vals r.o with
      | true =>
        show s1Yes P X rs T0 r vals h (stageA P X rs T0 j l) = _
        unfold s1Yes
        rw [execC_eq, erC_eq]
        simp only [cond_false, cond_true]
        cases execA P X h (evalR rs T0 vals r) r.o with
        | none => rfl
        | some nx =>
          cases nx <;> try rfl
          rename_i v h'
          show stageA P X rs T0 j l (setV vals r.i v) h' = _
          rw [setV_eq, PT.setK_eq]
      | false =>
        show stageA P X rs T0 j l (setV vals r.i undef) h = _
        rw [setV_eq, PT.setK_eq]; rfl

def ckYes : Program → XT → List Row → PT Value → PT Value → AH → Row → Bool → Bool := fun P X rs0 T0 vals h r ih => @Bool.rec (fun _ => Bool) false ih (checkRC P X rs0 T0 vals h r)
where
  ccVal : Value → AH → Value → Bool := fun v _ u => veq u v
  ccNext : ANext → Value → Bool := fun nx => @ANext.rec (fun _ => Value → Bool) ccVal (fun _ _ => false) (fun _ _ _ _ => false) (fun _ _ _ _ _ _ _ _ => false) (fun _ _ _ => false) (fun _ _ => false) (fun _ _ _ => false) nx
  ccRead : Program → XT → List Row → PT Value → PT Value → AH → Row → Value → Bool := fun P X rs T0 vals h r u => @Option.rec ANext (fun _ => Value → Bool) (fun _ => false) ccNext (execC P X h (erC rs T0 vals r) r.o) u
  ccAlloc : Program → XT → List Row → PT Value → PT Value → AH → Row → Value → Bool := fun P X rs T0 vals h r u =>
    match u with
    | .pointer (some a) => checkNewK P X rs T0 vals h r u a.block
    | .slice (some a) _ _ => checkNewK P X rs T0 vals h r u a.block
    | .map (some b) => checkNewK P X rs T0 vals h r u b
    | _ => false
  ccEff : Program → XT → List Row → PT Value → PT Value → AH → Row → Value → Bool := fun _ _ _ _ _ _ _ _ => false
  checkUC : Program → XT → List Row → PT Value → PT Value → AH → Row → Value → Bool := fun P X rs T0 vals h r u =>
    @Cls.rec (fun _ => Program → XT → List Row → PT Value → PT Value → AH → Row → Value → Bool) ccRead ccRead ccAlloc ccEff (clsOf P r.o) P X rs T0 vals h r u
  ccUndef : Program → XT → List Row → PT Value → PT Value → AH → Row → Value → Bool := fun _ _ _ _ _ _ _ u => veq u undef
  crSome : Value → Program → XT → List Row → PT Value → PT Value → AH → Row → Bool := fun u P X rs T0 vals h r => @Bool.rec (fun _ => Program → XT → List Row → PT Value → PT Value → AH → Row → Value → Bool) ccUndef checkUC (wnC vals r.o) P X rs T0 vals h r u
  checkRC (P : Program) (X : XT) (rs : List Row) (T0 vals : PT Value) (h : AH) (r : Row) : Bool := @Option.rec Value (fun _ => Program → XT → List Row → PT Value → PT Value → AH → Row → Bool) (fun _ _ _ _ _ _ _ => false) crSome (gV vals r.i) P X rs T0 vals h r

theorem checkRC_eq (P : Program) (X : XT) (rs : List Row) (T0 vals : PT Value) (h : AH) (r : Row) : ckYes.checkRC P X rs T0 vals h r = checkR P X rs T0 vals h r := by
  rw [← checkRK_eq]
  unfold ckYes.checkRC checkRK
  rw [gV_eq]
  cases vals.getK r.i with
  | none => rfl
  | some u =>
    show ckYes.crSome u P X rs T0 vals h r = _
    unfold ckYes.crSome
    rw [wnC_eq, wantedRK_eq]
    simp only []
    cases wantedR vals r.o with
    | false => rfl
    | true =>
      show ckYes.checkUC P X rs T0 vals h r u = checkU P X rs T0 vals h r u
      unfold ckYes.checkUC checkU
      have hread : ckYes.ccRead P X rs T0 vals h r u = (match execK P X h (evalRK rs T0 vals r) r.o with | some (.value v _) => veq u v | _ => false) := by
        unfold ckYes.ccRead
        rw [execC_eq, erC_eq, execK_eq, evalRK_eq]
        cases execA P X h (evalR rs T0 vals r) r.o with
        | none => rfl
        | some nx => cases nx <;> rfl
      cases clsOf P r.o with
      | pure => exact hread
      | read => exact hread
      | alloc => rfl
      | effect => rfl

def ckSkip : Program → XT → List Row → PT Value → PT Value → AH → Row → Bool → Bool := fun _ _ _ _ _ _ _ ih => ih
def notAt (P : Program) (r : Row) (j : Nat) : Bool := isEff P r.o || Nat.blt j r.e0 || Nat.blt r.l j
def ckNil : Program → XT → List Row → PT Value → PT Value → AH → Nat → Bool := fun _ _ _ _ _ _ _ => true
def ckCons : Row → List Row → (Program → XT → List Row → PT Value → PT Value → AH → Nat → Bool) → Program → XT → List Row → PT Value → PT Value → AH → Nat → Bool :=
  fun r _ ih P X rs0 T0 vals h j => @Bool.rec (fun _ => Program → XT → List Row → PT Value → PT Value → AH → Row → Bool → Bool) ckYes ckSkip (notAt P r j) P X rs0 T0 vals h r (ih P X rs0 T0 vals h j)
def ckC (P : Program) (X : XT) (rs0 : List Row) (T0 vals : PT Value) (h : AH) (j : Nat) (l : List Row) : Bool :=
  @List.rec Row (fun _ => Program → XT → List Row → PT Value → PT Value → AH → Nat → Bool) ckNil ckCons l P X rs0 T0 vals h j
theorem ckC_eq (P : Program) (X : XT) (rs0 : List Row) (T0 vals : PT Value) (h : AH) (j : Nat) (l : List Row) : ckC P X rs0 T0 vals h j l = checkAllK P X rs0 T0 vals h j l := by
  induction l with
  | nil => rfl
  | cons r l ih =>
    have h1 : ckC P X rs0 T0 vals h j (r :: l) = @Bool.rec (fun _ => Program → XT → List Row → PT Value → PT Value → AH → Row → Bool → Bool) ckYes ckSkip (notAt P r j) P X rs0 T0 vals h r (ckC P X rs0 T0 vals h j l) := rfl
    have h2 : checkAllK P X rs0 T0 vals h j (r :: l) = @Bool.rec (fun _ => Bool) (@Bool.rec (fun _ => Bool) false (checkAllK P X rs0 T0 vals h j l) (checkRK P X rs0 T0 vals h r)) (checkAllK P X rs0 T0 vals h j l) (isEff P r.o || Nat.blt j r.e0 || Nat.blt r.l j) := rfl
    rw [h1, h2, ih]
    unfold notAt
    cases isEff P r.o || Nat.blt j r.e0 || Nat.blt r.l j with
    | true => rfl
    | false =>
      show @Bool.rec (fun _ => Bool) false (checkAllK P X rs0 T0 vals h j l) (ckYes.checkRC P X rs0 T0 vals h r) = _
      rw [checkRC_eq, checkRK_eq]

def srCk : PT Value × AH → Program → XT → List Row → PT Value → Nat → SG := fun p P X rs T0 j => @Bool.rec (fun _ => PT Value × AH → SG) (fun _ => none) (fun p => some p) (ckC P X rs T0 p.1 p.2 j rs) p
def srC (P : Program) (X : XT) (rs : List Row) (T0 : PT Value) (j : Nat) (vals : PT Value) (h : AH) : SG :=
  @Option.rec (PT Value × AH) (fun _ => Program → XT → List Row → PT Value → Nat → SG) (fun _ _ _ _ _ => none) srCk (sgC P X rs T0 j rs vals h) P X rs T0 j
theorem srC_eq (P : Program) (X : XT) (rs : List Row) (T0 : PT Value) (j : Nat) (vals : PT Value) (h : AH) : srC P X rs T0 j vals h = stageR P X rs T0 j vals h := by
  rw [← stageRK_eq]
  unfold srC stageRK
  rw [sgC_eq, stageAK_eq]
  cases stageA P X rs T0 j rs vals h with
  | none => rfl
  | some p =>
    obtain ⟨vals, h⟩ := p
    show srCk (vals, h) P X rs T0 j = _
    unfold srCk
    rw [ckC_eq]
    simp only []
    cases checkAllK P X rs T0 vals h j rs <;> rfl

abbrev SubT := AH → FuncId → List Value → Option (Value × AH)
def efVal : Value → AH → SubT → Option (Value × AH) := fun v h _ => some (v, h)
def efSkip : AH → SubT → Option (Value × AH) := fun h _ => some (undef, h)
def efEnter : FuncId → List Value → AH → SubT → Option (Value × AH) := fun f args h sub => sub h f args
def efNext : ANext → SubT → Option (Value × AH) := fun nx => @ANext.rec (fun _ => SubT → Option (Value × AH)) efVal efSkip efEnter (fun _ _ _ _ _ _ _ _ => none) (fun _ _ _ => none) (fun _ _ => none) (fun _ _ _ => none) nx
def efYes : Program → XT → SubT → List Row → PT Value → Row → PT Value → AH → Option (Value × AH) := fun P X sub rs T0 r vals h => @Option.rec ANext (fun _ => SubT → Option (Value × AH)) (fun _ => none) efNext (execC P X h (erC rs T0 vals r) r.o) sub
def efNo : Program → XT → SubT → List Row → PT Value → Row → PT Value → AH → Option (Value × AH) := fun _ _ _ _ _ _ _ h => some (undef, h)
def efC (P : Program) (X : XT) (sub : SubT) (rs : List Row) (T0 : PT Value) (r : Row) (vals : PT Value) (h : AH) : Option (Value × AH) :=
  @Bool.rec (fun _ => Program → XT → SubT → List Row → PT Value → Row → PT Value → AH → Option (Value × AH)) efNo efYes (wnC vals r.o) P X sub rs T0 r vals h
theorem efC_eq (P : Program) (X : XT) (sub : SubT) (rs : List Row) (T0 : PT Value) (r : Row) (vals : PT Value) (h : AH) : efC P X sub rs T0 r vals h = effR P X sub rs T0 r vals h := by
  unfold efC effR
  rw [wnC_eq]
  cases wantedR vals r.o with
  | false => rfl
  | true =>
    show efYes P X sub rs T0 r vals h = _
    unfold efYes
    rw [execC_eq, erC_eq]
    simp only [cond_true]
    cases execA P X h (evalR rs T0 vals r) r.o with
    | none => rfl
    | some nx => cases nx <;> rfl

abbrev RgK := Program → XT → SubT → List Row → PT Value → PT Value → AH → SG
def rgNil : RgK := fun _ _ _ _ _ vals h => some (vals, h)
def rgNext : PT Value × AH → RgK → Program → XT → SubT → List Row → PT Value → SG := fun p ih P X sub rs T0 => ih P X sub rs T0 p.1 p.2
def rgVal : Value × AH → Row → PT Value → RgK → Program → XT → SubT → List Row → PT Value → SG := fun p r vals ih P X sub rs T0 =>
  @Option.rec (PT Value × AH) (fun _ => RgK → Program → XT → SubT → List Row → PT Value → SG) (fun _ _ _ _ _ _ => none) rgNext (srC P X rs T0 (Nat.succ r.no) (setV vals r.i p.1) p.2) ih P X sub rs T0
def rgCons : Row → List Row → RgK → RgK := fun r _ ih P X sub rs T0 vals h =>
  @Option.rec (Value × AH) (fun _ => Row → PT Value → RgK → Program → XT → SubT → List Row → PT Value → SG) (fun _ _ _ _ _ _ _ _ => none) rgVal (efC P X sub rs T0 r vals h) r vals ih P X sub rs T0
def rgC (P : Program) (X : XT) (sub : SubT) (rs : List Row) (T0 : PT Value) (l : List Row) (vals : PT Value) (h : AH) : SG := @List.rec Row (fun _ => RgK) rgNil rgCons l P X sub rs T0 vals h
theorem rgC_eq (P : Program) (X : XT) (sub : SubT) (rs : List Row) (T0 : PT Value) (l : List Row) : ∀ vals h, rgC P X sub rs T0 l vals h = regionR P X sub rs T0 l vals h := by
  induction l with
  | nil => intro vals h; rfl
  | cons r l ih =>
    intro vals h
    have h1 : rgC P X sub rs T0 (r :: l) vals h = @Option.rec (Value × AH) (fun _ => Row → PT Value → RgK → Program → XT → SubT → List Row → PT Value → SG) (fun _ _ _ _ _ _ _ _ => none) rgVal (efC P X sub rs T0 r vals h) r vals (@List.rec Row (fun _ => RgK) rgNil rgCons l) P X sub rs T0 := rfl
    rw [h1, efC_eq, regionR]
    cases effR P X sub rs T0 r vals h with
    | none => rfl
    | some p =>
      obtain ⟨v, h⟩ := p
      show rgVal (v, h) r vals (@List.rec Row (fun _ => RgK) rgNil rgCons l) P X sub rs T0 = _
      unfold rgVal
      rw [srC_eq, setV_eq, PT.setK_eq]
      simp only []
      have hr : r.no.succ = r.no + 1 := rfl
      rw [hr]
      cases stageR P X rs T0 (r.no + 1) (PT.set 64 vals r.i v) h with
      | none => rfl
      | some p => exact ih p.1 p.2

abbrev PaK := Nat → PT Value → PT Value → Option (PT Value)
def paNil : PaK := fun _ _ T => some T
def paIn : Nat → Row → PaK → PaK := fun d r ih n vals T => ih n vals (setV T d (gT vals r.i))
def paDst : Nat → Row → PaK → PaK := fun d r ih n vals T => @Bool.rec (fun _ => Nat → Row → PaK → PaK) (fun _ _ _ _ _ _ => none) paIn (Nat.blt d n) d r ih n vals T
def paNo : Row → PaK → PaK := fun _ ih n vals T => ih n vals T
def paCons : Row → List Row → PaK → PaK := fun r _ ih n vals T => @Option.rec Nat (fun _ => Row → PaK → PaK) paNo paDst r.o.dst r ih n vals T
def paC (n : Nat) (l : List Row) (vals T : PT Value) : Option (PT Value) := @List.rec Row (fun _ => PaK) paNil paCons l n vals T
theorem paC_eq (n : Nat) (l : List Row) (vals : PT Value) : ∀ T, paC n l vals T = putAll n l vals T := by
  induction l with
  | nil => intro T; rfl
  | cons r l ih =>
    intro T
    have h1 : paC n (r :: l) vals T = @Option.rec Nat (fun _ => Row → PaK → PaK) paNo paDst r.o.dst r (@List.rec Row (fun _ => PaK) paNil paCons l) n vals T := rfl
    rw [h1, putAll]
    unfold putT
    cases r.o.dst with
    | none => exact ih T
    | some d =>
      show paDst d r (@List.rec Row (fun _ => PaK) paNil paCons l) n vals T = _
      unfold paDst
      simp only []
      cases Nat.blt d n with
      | false => rfl
      | true =>
        show paC n l vals (setV T d (gT vals r.i)) = _
        rw [ih, setV_eq, PT.setK_eq, gT_eq, getV_eq]; rfl

abbrev DrK := Program → XT → SubT → Array Oper → Nat → PT Value → SG
def drEnd : PT Value × AH → Array Oper → Nat → PT Value → Program → SG := fun p ops n T0 P => @Option.rec (PT Value) (fun _ => AH → SG) (fun _ => none) (fun T h => some (T, h)) (paC n (rowsOf P ops) p.1 T0) p.2
def drMid : PT Value × AH → DrK := fun p P X sub ops n T0 => @Option.rec (PT Value × AH) (fun _ => Array Oper → Nat → PT Value → Program → SG) (fun _ _ _ _ => none) drEnd (rgC P X sub (rowsOf P ops) T0 (effRows P ops) p.1 p.2) ops n T0 P
def drYes : Program → XT → SubT → Array Oper → Nat → PT Value → AH → SG := fun P X sub ops n T0 h => @Option.rec (PT Value × AH) (fun _ => DrK) (fun _ _ _ _ _ _ => none) drMid (srC P X (rowsOf P ops) T0 (nat_lit 0) .leaf h) P X sub ops n T0
def drNo : Program → XT → SubT → Array Oper → Nat → PT Value → AH → SG := fun _ _ _ _ _ _ _ => none
def drC (P : Program) (X : XT) (sub : SubT) (ops : Array Oper) (n : Nat) (T0 : PT Value) (h : AH) : SG :=
  @Bool.rec (fun _ => Program → XT → SubT → Array Oper → Nat → PT Value → AH → SG) drNo drYes (@Bool.rec (fun _ => Bool) false (dstsOK P ops n) (okDraw P ops)) P X sub ops n T0 h
theorem drC_eq (P : Program) (X : XT) (sub : SubT) (ops : Array Oper) (n : Nat) (T0 : PT Value) (h : AH) : drC P X sub ops n T0 h = drawR P X sub ops n T0 h := by
  rw [← drawRK_eq]
  unfold drC drawRK
  cases okDraw P ops <;> cases dstsOK P ops n <;> try rfl
  show drYes P X sub ops n T0 h = _
  unfold drYes
  have hz : (nat_lit 0) = (0 : Nat) := rfl
  rw [srC_eq, hz]
  simp only [stageRK_eq]
  cases stageR P X (rowsOf P ops) T0 0 .leaf h with
  | none => rfl
  | some p =>
    obtain ⟨vals, h⟩ := p
    show drMid (vals, h) P X sub ops n T0 = _
    unfold drMid
    rw [rgC_eq]
    simp only [regionRK_eq]
    cases regionR P X sub (rowsOf P ops) T0 (effRows P ops) vals h with
    | none => rfl
    | some p =>
      obtain ⟨vals, h⟩ := p
      show drEnd (vals, h) ops n T0 P = _
      unfold drEnd
      rw [paC_eq]
      simp only [putAllK_eq]
      cases putAll n (rowsOf P ops) vals T0 <;> rfl
end
end Go.AM

namespace Go.AM
open Go

noncomputable section
/-! ### a step, with what comes behind it -/
structure Base where
  fn : Nat
  n : Nat
  defers : List Deferred
  kind : CallKind
  ro : Option Nat
  callers : List AFrame

inductive KS where
  | run (b : Base) (T : PT Value) (todo : List AItem) (h : AH)
  | slow (s : AS)

def mkAS (b : Base) (T : PT Value) (todo : List AItem) (h : AH) : AS := ⟨⟨b.fn, b.n, T, todo, b.defers, .run, b.kind, b.ro⟩, b.callers, h⟩
def toAS (k : KS) : AS := @KS.rec (fun _ => AS) mkAS (fun s => s) k

def ofRun : Nat → Nat → PT Value → List AItem → List Deferred → CallKind → Option Nat → List AFrame → AH → KS := fun fn n T todo defers kind ro callers h => .run ⟨fn, n, defers, kind, ro, callers⟩ T todo h
def ofRet : Nat → Nat → PT Value → List AItem → List Deferred → CallKind → Option Nat → List AFrame → AH → KS := fun fn n T todo defers kind ro callers h => .slow ⟨⟨fn, n, T, todo, defers, .returning, kind, ro⟩, callers, h⟩
def ofPan : List PanicEntry → Nat → Nat → PT Value → List AItem → List Deferred → CallKind → Option Nat → List AFrame → AH → KS := fun l fn n T todo defers kind ro callers h => .slow ⟨⟨fn, n, T, todo, defers, .panicking l, kind, ro⟩, callers, h⟩
def ofFr : Nat → Nat → PT Value → List AItem → List Deferred → FrameMode → CallKind → Option Nat → List AFrame → AH → KS := fun fn n T todo defers mode kind ro callers h =>
  @FrameMode.rec (fun _ => Nat → Nat → PT Value → List AItem → List Deferred → CallKind → Option Nat → List AFrame → AH → KS) ofRun ofRet ofPan mode fn n T todo defers kind ro callers h
def ofS : AFrame → List AFrame → AH → KS := fun fr callers h => @AFrame.rec (fun _ => List AFrame → AH → KS) ofFr fr callers h
def ofAS (s : AS) : KS := @AS.rec (fun _ => KS) ofS s
theorem toAS_ofAS (s : AS) : toAS (ofAS s) = s := by
  obtain ⟨⟨fn, n, T, todo, defers, mode, kind, ro⟩, callers, h⟩ := s
  cases mode <;> rfl

abbrev KI := KS → AS

def subYes : AFrame → FuncId → AH → Program → KI → Option (Value × AH) := fun fr f h P ih => answerOf P f (ih (ofAS { fr, callers := [], h }))
def subC (P : Program) (ih : KI) : SubT := fun h f args => @Option.rec AFrame (fun _ => FuncId → AH → Program → KI → Option (Value × AH)) (fun _ _ _ _ => none) subYes (enterA P f args .normal) f h P ih

def goOn (s : AS) (ih : KI) (r : Option AS) : AS := @Option.rec AS (fun _ => AS → KI → AS) (fun s _ => s) (fun s' _ ih => ih (ofAS s')) r s ih
def slowC (P : Program) (X : XT) (ih : KI) (s : AS) : AS := cond (isEnd s) s (goOn s ih (stepA P X (subC P ih) s))

abbrev EnvK := Base → PT Value → List AItem → AH → Program → XT → KI → AS

/-- what a state comes to. -/
def stuckC : EnvK := fun b T todo h _ _ _ => mkAS b T todo h
def slowE : EnvK := fun b T todo h P X ih => slowC P X ih (mkAS b T todo h)

def enterC (P : Program) (f : FuncId) (args : List Value) (c0 : List AFrame) (h : AH) : Option AS :=
  match funcC P f with
  | some fn => match fn.body with
    | some c => match Nat.blt (max args.length fn.ntmps) 1000000 with
      | true => some ⟨⟨f, max args.length fn.ntmps, ofListK args 0 .leaf, [.code c], [], .run, .normal, none⟩, c0, h⟩
      | false => none
    | none => none
  | none => none
theorem enterC_eq (P : Program) (f : FuncId) (args : List Value) (c0 : List AFrame) (h : AH) : enterC P f args c0 h = enterK P f args c0 h := by
  unfold enterC enterK; rw [funcC_eq]; try rfl
def resultC (P : Program) (h : AH) (fr : AFrame) : Option Value :=
  match funcC P fr.fn with
  | some fn => (resultsA P h fr fn.results.toList).map fun vs => match vs with | [v] => v | vs => .tuple vs.toArray
  | none => none
theorem resultC_eq (P : Program) (h : AH) (fr : AFrame) : resultC P h fr = resultA P h fr := by unfold resultC resultA; rw [funcC_eq]; rfl

/-! the end of an operation; todo is still with the operation ahead. -/
abbrev FinK := Array Oper → List Oper → List AItem → Oper → EnvK
def fnIn : Nat → Value → Array Oper → List Oper → List AItem → Base → PT Value → AH → KI → AS := fun d v ops rest k b T h ih => ih (.run b (setV T d v) (.inRegion ops rest :: k) h)
def fnOut : Nat → Value → Array Oper → List Oper → List AItem → Base → PT Value → AH → KI → List AItem → AS := fun _ _ _ _ _ b T h _ todo => mkAS b T todo h
def fnDst : Nat → Value → AH → Array Oper → List Oper → List AItem → EnvK := fun d v h' ops rest k b T todo h _ _ ih =>
  @Bool.rec (fun _ => Base → PT Value → List AItem → AH → Nat → Value → AH → Array Oper → List Oper → List AItem → KI → AS) (fun b T todo h _ _ _ _ _ _ _ => mkAS b T todo h) (fun b T _ _ d v h' ops rest k ih => ih (.run b (setV T d v) (.inRegion ops rest :: k) h')) (Nat.blt d b.n) b T todo h d v h' ops rest k ih
def fnNo : Value → AH → Array Oper → List Oper → List AItem → EnvK := fun _ h' ops rest k b T _ _ _ _ ih => ih (.run b T (.inRegion ops rest :: k) h')
/-- the operation has given v, the heap is h'. -/
def fnC (dst : Option Tmp) : Value → AH → Array Oper → List Oper → List AItem → EnvK := @Option.rec Nat (fun _ => Value → AH → Array Oper → List Oper → List AItem → EnvK) fnNo fnDst dst

def enYes : AFrame → FuncId → EnvK := fun _ _ => slowE
abbrev NxK := Oper → Array Oper → List Oper → List AItem → EnvK
def nxVal : Value → AH → NxK := fun v h' o ops rest k b T todo h P X ih => fnC o.dst v h' ops rest k b T todo h P X ih
def nxSkip : AH → NxK := fun h' o ops rest k b T todo h P X ih => fnC o.dst undef h' ops rest k b T todo h P X ih
def nxEnter : FuncId → List Value → AH → NxK := fun f args h' _ _ _ _ b T todo h P _ ih => goOn (mkAS b T todo h) ih (enterC P f args (⟨b.fn, b.n, T, todo, b.defers, .run, b.kind, b.ro⟩ :: b.callers) h')
def nxOther (nx : ANext) : NxK := fun _ _ _ _ b T todo h P _ ih => goOn (mkAS b T todo h) ih (afterA P ⟨b.fn, b.n, T, todo, b.defers, .run, b.kind, b.ro⟩ b.callers nx)
def nxSome : ANext → NxK := fun nx => @ANext.rec (fun _ => NxK) nxVal nxSkip nxEnter (fun l f T n a c h => nxOther (.round l f T n a c h)) (fun d h => nxOther (.defer d h)) (fun h => nxOther (.recover h)) (fun v h => nxOther (.panic v h)) nx
def nxNone : NxK := fun _ _ _ _ b T todo h _ _ _ => mkAS b T todo h
def nxC (nx : Option ANext) : NxK := @Option.rec ANext (fun _ => NxK) nxNone nxSome nx

def opGo : NxK := fun o ops rest k b T todo h P X ih => nxC (execC P X h (evC T) o) o ops rest k b T todo h P X ih
def opPass : NxK := fun o ops rest k b T todo h P X ih => fnC o.dst undef h ops rest k b T todo h P X ih
def opGuard : Nat × Bool → NxK := fun _ o ops rest k b T todo h P X ih => @Bool.rec (fun _ => NxK) opPass opGo (wantedA ops T o) o ops rest k b T todo h P X ih
def opC (o : Oper) : Array Oper → List Oper → List AItem → EnvK := fun ops rest k b T todo h P X ih => @Option.rec (Nat × Bool) (fun _ => NxK) opGo opGuard o.guard o ops rest k b T todo h P X ih

theorem goOn_run (P : Program) (X : XT) (ih : KI) (s : AS) (hE : isEnd s = false) (r : Option AS) (hr : stepA P X (subC P ih) s = r) : slowC P X ih s = goOn s ih r := by
  unfold slowC; rw [hE, hr]; rfl

theorem isEnd_run (b : Base) (T : PT Value) (todo : List AItem) (h : AH) : isEnd (mkAS b T todo h) = false := rfl

theorem fnC_eq (o : Oper) (v : Value) (h' : AH) (ops : Array Oper) (rest : List Oper) (k : List AItem) (b : Base) (T : PT Value) (h : AH) (P : Program) (X : XT) (ih : KI) :
    fnC o.dst v h' ops rest k b T (.inRegion ops (o :: rest) :: k) h P X ih =
      goOn (mkAS b T (.inRegion ops (o :: rest) :: k) h) ih ((finishA ⟨b.fn, b.n, T, .inRegion ops (o :: rest) :: k, b.defers, .run, b.kind, b.ro⟩ v).map fun fr => { fr, callers := b.callers, h := h' }) := by
  rw [← finK_eq]
  unfold fnC finK
  cases o.dst with
  | none => rfl
  | some d =>
    show fnDst d v h' ops rest k b T (.inRegion ops (o :: rest) :: k) h P X ih = _
    unfold fnDst
    simp only []
    rw [← setV_eq]
    cases Nat.blt d b.n <;> rfl

theorem nxC_eq (nx : Option ANext) (o : Oper) (ops : Array Oper) (rest : List Oper) (k : List AItem) (b : Base) (T : PT Value) (h : AH) (P : Program) (X : XT) (ih : KI) :
    nxC nx o ops rest k b T (.inRegion ops (o :: rest) :: k) h P X ih =
      goOn (mkAS b T (.inRegion ops (o :: rest) :: k) h) ih (nx.bind fun nx => afterA P ⟨b.fn, b.n, T, .inRegion ops (o :: rest) :: k, b.defers, .run, b.kind, b.ro⟩ b.callers nx) := by
  cases nx with
  | none => rfl
  | some nx =>
    cases nx with
    | value v h' => exact fnC_eq o v h' ops rest k b T h P X ih
    | skip h' => exact fnC_eq o undef h' ops rest k b T h P X ih
    | enter f args h' =>
      show goOn (mkAS b T (.inRegion ops (o :: rest) :: k) h) ih (enterC P f args _ h') = _
      rw [enterC_eq, enterK_eq]; rfl
    | round l f T' n a c h' => rfl
    | defer d h' => rfl
    | recover h' => rfl
    | panic v h' => rfl

theorem opC_eq (o : Oper) (ops : Array Oper) (rest : List Oper) (k : List AItem) (b : Base) (T : PT Value) (h : AH) (P : Program) (X : XT) (ih : KI) :
    opC o ops rest k b T (.inRegion ops (o :: rest) :: k) h P X ih = slowC P X ih (mkAS b T (.inRegion ops (o :: rest) :: k) h) := by
  have hev : evC T = AFrame.eval ⟨b.fn, b.n, T, .inRegion ops (o :: rest) :: k, b.defers, .run, b.kind, b.ro⟩ := by rw [evC_eq]; exact evK_eq ⟨b.fn, b.n, T, .inRegion ops (o :: rest) :: k, b.defers, .run, b.kind, b.ro⟩
  have hgo : opGo o ops rest k b T (.inRegion ops (o :: rest) :: k) h P X ih = goOn (mkAS b T (.inRegion ops (o :: rest) :: k) h) ih
      ((execA P X h (AFrame.eval ⟨b.fn, b.n, T, .inRegion ops (o :: rest) :: k, b.defers, .run, b.kind, b.ro⟩) o).bind fun nx => afterA P ⟨b.fn, b.n, T, .inRegion ops (o :: rest) :: k, b.defers, .run, b.kind, b.ro⟩ b.callers nx) := by
    unfold opGo
    rw [nxC_eq, execC_eq, hev]
  have hpass : opPass o ops rest k b T (.inRegion ops (o :: rest) :: k) h P X ih = goOn (mkAS b T (.inRegion ops (o :: rest) :: k) h) ih
      ((finishA ⟨b.fn, b.n, T, .inRegion ops (o :: rest) :: k, b.defers, .run, b.kind, b.ro⟩ undef).map fun fr => { fr, callers := b.callers, h }) := fnC_eq o undef h ops rest k b T h P X ih
  have hs : stepA P X (subC P ih) (mkAS b T (.inRegion ops (o :: rest) :: k) h) =
    cond (wantedA ops T o) ((execA P X h (AFrame.eval ⟨b.fn, b.n, T, .inRegion ops (o :: rest) :: k, b.defers, .run, b.kind, b.ro⟩) o).bind fun nx => afterA P ⟨b.fn, b.n, T, .inRegion ops (o :: rest) :: k, b.defers, .run, b.kind, b.ro⟩ b.callers nx)
      ((finishA ⟨b.fn, b.n, T, .inRegion ops (o :: rest) :: k, b.defers, .run, b.kind, b.ro⟩ undef).map fun fr => { fr, callers := b.callers, h }) := rfl
  rw [goOn_run P X ih _ (isEnd_run b T _ h) _ hs]
  unfold opC
  cases hg : o.guard with
  | none =>
    have : wantedA ops T o = true := by unfold wantedA; rw [hg]
    rw [this]; exact hgo
  | some g =>
    show opGuard g o ops rest k b T (.inRegion ops (o :: rest) :: k) h P X ih = _
    unfold opGuard
    cases wantedA ops T o with
    | true => exact hgo
    | false => exact hpass

/-! items; todo is the whole list. -/
abbrev ItK := List AItem → EnvK
def cdSeq : Code → Code → ItK := fun a c k b T _ h _ _ ih => ih (.run b T (.code a :: .code c :: k) h)
def cdSkip : ItK := fun k b T _ h _ _ ih => ih (.run b T k h)
def cdCond : Bool → Code → Code → ItK := fun t a c k b T _ h _ _ ih => ih (.run b T (.code (@Bool.rec (fun _ => Code) c a t) :: k) h)
def cdCondO : Operand → Code → Code → ItK := fun o a c k b T todo h P X ih => @Option.rec Bool (fun _ => Code → Code → ItK) (fun _ _ _ => stuckC) cdCond (asBool (evC T o)) a c k b T todo h P X ih
def cdBlock : Nat → Code → ItK := fun id body k b T _ h _ _ ih => ih (.run b T (.code body :: .inBlock id :: k) h)
def cdLoop : Code → ItK := fun body k b T _ h _ _ ih => ih (.run b T (.code body :: .inLoop body :: k) h)
def rgDone : PT Value × AH → List AItem → Base → KI → AS := fun p k b ih => ih (.run b p.1 k p.2)
def cdDraw : Array Oper → ItK := fun ops k b T todo h P X ih => @Option.rec (PT Value × AH) (fun _ => List AItem → Base → PT Value → List AItem → AH → KI → AS) (fun _ b T todo h _ => mkAS b T todo h) (fun p k b _ _ _ ih => rgDone p k b ih) (drC P X (subC P ih) ops b.n T h) k b T todo h ih
def cdPlain : Array Oper → ItK := fun ops k b T _ h _ _ ih => ih (.run b T (.inRegion ops ops.toList :: k) h)
def cdRegion : Nat → Array Oper → Bool → ItK := fun _ ops draw => @Bool.rec (fun _ => Array Oper → ItK) cdPlain cdDraw draw ops
def slowI : ItK := fun _ => slowE
def rtNone : EnvK := fun b T todo h _ _ ih => ih (.slow ⟨⟨b.fn, b.n, T, todo, b.defers, .returning, b.kind, b.ro⟩, b.callers, h⟩)
def cdRet : ItK := fun _ b T todo h P X ih => @Option.rec Nat (fun _ => EnvK) rtNone (fun _ => slowE) b.ro b T todo h P X ih
def itCode : Code → ItK := fun c => @Code.rec (fun _ => ItK) cdSkip cdRegion (fun a b _ _ => cdSeq a b) (fun o a b _ _ => cdCondO o a b) (fun id body _ => cdBlock id body) (fun body _ => cdLoop body) (fun _ _ _ _ _ _ => slowI) (fun _ => slowI) (fun _ _ => slowI) (fun _ => slowI) (fun _ => slowI) cdRet (fun _ => slowI) c
def itInBlock : Nat → ItK := fun _ => cdSkip
def itInLoop : Code → ItK := fun body k b T _ h _ _ ih => ih (.run b T (.code body :: .inLoop body :: k) h)
def irCons : Oper → List Oper → List Oper → Array Oper → ItK := fun o rest _ ops k => opC o ops rest k
def itRegion : Array Oper → List Oper → ItK := fun ops l => @List.rec Oper (fun _ => Array Oper → ItK) (fun _ => cdSkip) (fun o rest _ ops k => opC o ops rest k) l ops
def tdCons : AItem → List AItem → EnvK → EnvK := fun it k _ => @AItem.rec (fun _ => ItK) itCode itInBlock itInLoop itRegion (fun _ => slowI) (fun _ => slowI) slowI it k
def runE : EnvK := fun b T todo h P X ih => @List.rec AItem (fun _ => EnvK) slowE tdCons todo b T todo h P X ih

theorem runE_eq (b : Base) (T : PT Value) (todo : List AItem) (h : AH) (P : Program) (X : XT) (ih : KI) : runE b T todo h P X ih = slowC P X ih (mkAS b T todo h) := by
  cases todo with
  | nil => rfl
  | cons it k =>
    cases it with
    | inRangeFunc l => rfl
    | endRangeFunc l => rfl
    | beginRound => rfl
    | inBlock id => rfl
    | inLoop body => rfl
    | inRegion ops l =>
      cases l with
      | nil => rfl
      | cons o rest => exact opC_eq o ops rest k b T h P X ih
    | code c =>
      cases c with
      | skip => rfl
      | seq a c => rfl
      | block id body => rfl
      | loop body => rfl
      | rangeFunc f ps a body => rfl
      | exit id => rfl
      | scope body => rfl
      | label l => rfl
      | goto l => rfl
      | refuse why => rfl
      | ret =>
        obtain ⟨fn, n, defers, kind, ro, callers⟩ := b
        cases ro <;> rfl
      | cond o a c =>
        have hev : evC T o = AFrame.eval ⟨b.fn, b.n, T, .code (.cond o a c) :: k, b.defers, .run, b.kind, b.ro⟩ o := by rw [evC_eq]; rw [← evK_eq]
        have hs : stepA P X (subC P ih) (mkAS b T (.code (.cond o a c) :: k) h) = match AFrame.eval ⟨b.fn, b.n, T, .code (.cond o a c) :: k, b.defers, .run, b.kind, b.ro⟩ o with
            | .bool t => some (mkAS b T (.code (cond t a c) :: k) h) | _ => none := rfl
        rw [goOn_run P X ih _ (isEnd_run b T _ h) _ hs]
        show cdCondO o a c k b T (.code (.cond o a c) :: k) h P X ih = _
        unfold cdCondO
        rw [hev]
        cases AFrame.eval ⟨b.fn, b.n, T, .code (.cond o a c) :: k, b.defers, .run, b.kind, b.ro⟩ o <;> try rfl
        rename_i t; cases t <;> rfl
      | region id ops draw =>
        cases draw with
        | false => rfl
        | true =>
          have hs : stepA P X (subC P ih) (mkAS b T (.code (.region id ops true) :: k) h) = (drawR P X (subC P ih) ops b.n T h).map fun (x : PT Value × AH) => mkAS b x.1 k x.2 := rfl
          rw [goOn_run P X ih _ (isEnd_run b T _ h) _ hs]
          show cdDraw ops k b T (.code (.region id ops true) :: k) h P X ih = _
          unfold cdDraw
          rw [drC_eq]
          cases drawR P X (subC P ih) ops b.n T h <;> rfl

/-- a frame that ends well, without deferred calls. -/
def lvFin : AFrame → List AFrame → AH → KI → AS := fun c rest h ih => ih (ofAS { fr := c, callers := rest, h })
def leaveC (P : Program) (X : XT) (ih : KI) (s : AS) : AS :=
  match s.fr.mode, s.fr.defers, s.callers, s.fr.kind with
  | .returning, [], c :: rest, .normal => goOn s ih ((resultC P s.h s.fr).bind fun v => (finishA c v).map fun c => { fr := c, callers := rest, h := s.h })
  | .run, _, _, _ => @KS.rec (fun _ => AS) (fun b T todo h => runE b T todo h P X ih) (fun s => slowC P X ih s) (ofAS s)
  | _, _, _, _ => slowC P X ih s
theorem leaveC_eq (P : Program) (X : XT) (ih : KI) (s : AS) : leaveC P X ih s = slowC P X ih s := by
  obtain ⟨⟨fn, n, T, todo, defers, mode, kind, ro⟩, callers, h⟩ := s
  cases mode with
  | run => exact runE_eq ⟨fn, n, defers, kind, ro, callers⟩ T todo h P X ih
  | panicking l => rfl
  | returning =>
    cases defers with
    | cons d ds => rfl
    | nil =>
      cases callers with
      | nil => rfl
      | cons c rest =>
        cases kind <;> try rfl
        show goOn _ ih ((resultC P h _).bind _) = _
        rw [resultC_eq]; rfl

def contC (P : Program) (X : XT) (ih : KI) (s : KS) : AS := @KS.rec (fun _ => Program → XT → KI → AS) runE (fun s P X ih => leaveC P X ih s) s P X ih
def succC : Nat → (Program → XT → KI) → Program → XT → KI := fun _ ih P X s => contC P X (ih P X) s
def runC (n : Nat) (P : Program) (X : XT) : KI := @Nat.rec (fun _ => Program → XT → KI) (fun _ _ s => toAS s) succC n P X

theorem runC_eq (P : Program) (X : XT) (n : Nat) : ∀ s, runC n P X s = runA P X n (toAS s) := by
  induction n with
  | zero => intro s; rfl
  | succ n ih =>
    intro s
    have h1 : runC (n + 1) P X s = contC P X (runC n P X) s := rfl
    have h2 : ∀ s, runA P X (n + 1) s = cond (isEnd s) s (match stepA P X (fun h f args => match enterA P f args .normal with
        | some fr => answerOf P f (runA P X n { fr, callers := [], h })
        | none => none) s with
      | some s' => runA P X n s'
      | none => s) := fun s => rfl
    have hsub : subC P (runC n P X) = fun h f args => match enterA P f args .normal with
        | some fr => answerOf P f (runA P X n { fr, callers := [], h })
        | none => none := by
      funext h f args
      unfold subC
      cases enterA P f args .normal with
      | none => rfl
      | some fr =>
        show answerOf P f (runC n P X (ofAS { fr, callers := [], h })) = _
        rw [ih, toAS_ofAS]
    have hslow : ∀ s, slowC P X (runC n P X) s = runA P X (n + 1) s := by
      intro s
      rw [h2]
      unfold slowC
      rw [hsub]
      cases isEnd s with
      | true => rfl
      | false =>
        simp only [cond_false]
        cases stepA P X _ s with
        | none => rfl
        | some s' =>
          show runC n P X (ofAS s') = _
          rw [ih, toAS_ofAS]
    rw [h1, ← hslow]
    cases s with
    | run b T todo h => exact runE_eq b T todo h P X _
    | slow s => exact leaveC_eq P X _ s
end
end Go.AM

namespace Go.AM
open Go Go.RowKit

/-! ## a run in pieces: between two pieces less of the heap may be known -/
structure Cov (s s' : AS) : Prop where
  fr : s'.fr = s.fr
  callers : s'.callers = s.callers
  fams : s'.h.fams = s.h.fams
  next : s'.h.next = s.h.next
  tree : ∀ b o, s'.h.tree.get b = some o → s.h.tree.get b = some o

section
variable {P : Program} {X : FuncId → List Value → Option Value} {e : Env} {B0 : Nat} {w : World}

theorem HRel.restrict {h h' : AH} (H : HRel e B0 h w) (hf : h'.fams = h.fams) (hn : h'.next = h.next) (ht : ∀ b o, h'.tree.get b = some o → h.tree.get b = some o) : HRel e B0 h' w := by
  obtain ⟨tree, fams, next⟩ := h
  obtain ⟨tree', fams', next'⟩ := h'
  simp only at hf hn ht
  subst hf; subst hn
  refine ⟨fun hl hg => ?_, fun hl hg ho => H.obj hl (ht _ _ hg) ho, H.sep, H.one, H.old, H.new, H.famlt, H.famnew, H.low, H.base, H.nx⟩
  obtain ⟨a1, a2, a3, a4, a5, a6, a7⟩ := H.row hl (ht _ _ hg)
  exact ⟨a1, a2, a3, a4, a5, a6, a7⟩

/-- whatever the first state stands for comes to what the second stands for. -/
def Reach (P : Program) (s0 s : AS) : Prop := ∀ (B0 : Nat) (e : Env) (cs : List Frame) (fr' : Frame) (frs : List Frame) (w : World), FRel e s0.fr fr' → FsRel e s0.callers frs → HRel e B0 s0.h w → Goes P B0 e cs fr' frs w s

theorem Reach.refl (s : AS) : Reach P s s := fun _ e _ fr' frs w F Fs H => ⟨e, fr', frs, w, Env.le_refl e, Steps.refl _ _, F, Fs, H, Below.refl _ _⟩

theorem Reach.run (G : Good P X) {s0 s : AS} (hr : Reach P s0 s) (n : Nat) : Reach P s0 (runA P X n s) := by
  intro B0 e cs fr' frs w F Fs H
  obtain ⟨e1, fr1, frs1, w1, hle, hs, F1, Fs1, H1, hb⟩ := hr B0 e cs fr' frs w F Fs H
  exact Goes.trans hle hs hb (run_sound G n s e1 fr1 frs1 cs w1 F1 Fs1 H1)

theorem Reach.cov {s0 s s' : AS} (hr : Reach P s0 s) (hc : Cov s s') : Reach P s0 s' := by
  intro B0 e cs fr' frs w F Fs H
  obtain ⟨e1, fr1, frs1, w1, hle, hs, F1, Fs1, H1, hb⟩ := hr B0 e cs fr' frs w F Fs H
  exact ⟨e1, fr1, frs1, w1, hle, hs, by rw [hc.fr]; exact F1, by rw [hc.callers]; exact Fs1, H1.restrict hc.fams hc.next hc.tree, hb⟩

theorem calls_of_reach {f : FuncId} {s0 s : AS} {v : Value} {h' : AH} (hs : startA P f [] = some s0) (hr : Reach P s0 s) (ha : answerOf P f s = some (v, h')) (w : World) :
    Calls P f #[] w fun en w' => ∃ v', en = .returned v' ∧ Below w.heap.size w w' ∧ ∃ e', VRel e' v v' := by
  intro cs
  unfold startA at hs
  obtain ⟨fr, hfr, rfl⟩ := opt_map_some hs
  have hV : VsRel { Env.mk0 with nx := 1000 } [] (#[] : Array Value).toList := VsRel.nil
  obtain ⟨F, _⟩ := enter_sim hV hfr
  have H : HRel { Env.mk0 with nx := 1000 } w.heap.size { tree := .leaf, fams := .leaf, next := 1000 } w := by
    refine ⟨?_, ?_, ?_, ?_, ?_, fun _ => rfl, ?_, fun _ => rfl, ?_, ?_, rfl⟩
    · intro b c d cs size es fam delta hl; cases hl
    · intro b c d o hl; cases hl
    · intro b1 b2 c d1 d2 hl; cases hl
    · intro b1 b2 x1 x2 hl; cases hl
    · intro b x F hl; cases hl
    · intro b x hl; cases hl
    · intro b c d hl; cases hl
    · show 1000 ≤ 1000 ∧ 1000 ≤ 1000000000 ∧ w.heap.size ≤ w.heap.size
      omega
  obtain ⟨e', fr1, frs1, w1, hle, hst, F1, Fs1, H1, hb⟩ := hr w.heap.size _ cs _ [] w F .nil H
  obtain ⟨rfl, rfl, hfn, v', hlv, hV'⟩ := answer_sim (P := P) F1 Fs1 H1 ha
  exact ⟨.returned v', w1, fr1, ⟨v', rfl, hb, e', hV'⟩, hst, hfn, hlv⟩

/-! ### what is held against a written state -/
def veqO : Option Value → Option Value → Bool
  | none, none => true
  | some a, some b => veq a b
  | _, _ => false
def ptEq : PT Value → PT Value → Bool
  | .leaf, .leaf => true
  | .node l v r, .node l' v' r' => veqO v v' && ptEq l l' && ptEq r r'
  | _, _ => false
theorem ptEq_eq : ∀ (a b : PT Value), ptEq a b = true → a = b
  | .leaf, .leaf, _ => rfl
  | .node l v r, .node l' v' r', h => by
    simp only [ptEq, Bool.and_eq_true] at h
    rw [ptEq_eq l l' h.1.2, ptEq_eq r r' h.2]
    have : v = v' := by
      have hv := h.1.1
      cases v <;> cases v' <;> simp only [veqO] at hv <;> try cases hv
      · rfl
      · rw [veq_eq _ _ hv]
    rw [this]
  | .leaf, .node _ _ _, h => by cases h
  | .node _ _ _, .leaf, h => by cases h

def famEq : Option Fam → Option Fam → Bool
  | none, none => true
  | some a, some b => Nat.beq a.head b.head && Nat.beq a.oldEnd b.oldEnd && (a.oldAlive == b.oldAlive)
  | _, _ => false
def pfEq : PT Fam → PT Fam → Bool
  | .leaf, .leaf => true
  | .node l v r, .node l' v' r' => famEq v v' && pfEq l l' && pfEq r r'
  | _, _ => false
theorem pfEq_eq : ∀ (a b : PT Fam), pfEq a b = true → a = b
  | .leaf, .leaf, _ => rfl
  | .node l v r, .node l' v' r', h => by
    simp only [pfEq, Bool.and_eq_true] at h
    rw [pfEq_eq l l' h.1.2, pfEq_eq r r' h.2]
    have : v = v' := by
      have hv := h.1.1
      cases v with
      | none => cases v' <;> simp only [famEq] at hv <;> first | rfl | cases hv
      | some a =>
        cases v' with
        | none => simp only [famEq] at hv; cases hv
        | some b =>
          obtain ⟨a1, a2, a3⟩ := a
          obtain ⟨b1, b2, b3⟩ := b
          simp only [famEq, Bool.and_eq_true, nbeq, decide_eq_true_eq, beq_iff_eq] at hv
          rw [hv.1.1, hv.1.2, hv.2]
    rw [this]
  | .leaf, .node _ _ _, h => by cases h
  | .node _ _ _, .leaf, h => by cases h

def mesEq : List MapEntry → List MapEntry → Bool
  | [], [] => true
  | a :: l, b :: m => veq a.key b.key && veq a.val b.val && Nat.beq a.born b.born && mesEq l m
  | _, _ => false
theorem mesEq_eq : ∀ (a b : List MapEntry), mesEq a b = true → a = b
  | [], [], _ => rfl
  | ⟨k, v, n⟩ :: l, ⟨k', v', n'⟩ :: m, h => by
    simp only [mesEq, Bool.and_eq_true, nbeq, decide_eq_true_eq] at h
    rw [veq_eq _ _ h.1.1.1, veq_eq _ _ h.1.1.2, h.1.2, mesEq_eq l m h.2]
  | [], _ :: _, h => by cases h
  | _ :: _, [], h => by cases h

/-- rows and maps alone are held against what is written. -/
def objEq : AObj → AObj → Bool
  | .row cs n es f d, .row cs' n' es' f' d' => Nat.beq n n' && Nat.beq es es' && Nat.beq f f' && Nat.beq d d' && veqs cs cs'
  | .map l c, .map l' c' => Nat.beq c c' && mesEq l l'
  | _, _ => false
theorem objEq_eq : ∀ (a b : AObj), objEq a b = true → a = b := by
  intro a b h
  cases a <;> cases b <;> try (cases h; done)
  · simp only [objEq, Bool.and_eq_true, nbeq, decide_eq_true_eq] at h
    obtain ⟨⟨⟨⟨h1, h2⟩, h3⟩, h4⟩, h5⟩ := h
    rw [h1, h2, h3, h4, veqs_eq _ _ h5]
  · simp only [objEq, Bool.and_eq_true, nbeq, decide_eq_true_eq] at h
    rw [h.1, mesEq_eq _ _ h.2]

noncomputable def heapOK (t : PT AObj) : List (Nat × AObj) → Bool
  | [] => true
  | (b, o) :: l => Nat.blt b 1000000000 && (match gO t b with | some o' => objEq o o' | none => false) && heapOK t l

noncomputable def ofPairs : List (Nat × AObj) → PT AObj
  | [] => .leaf
  | (b, o) :: l => setO (ofPairs l) b o

theorem ofPairs_get (t : PT AObj) : ∀ (l : List (Nat × AObj)), (∀ p ∈ l, p.1 < 1000000000 ∧ t.get p.1 = some p.2) → ∀ b o, (ofPairs l).get b = some o → t.get b = some o
  | [], _, b, o, h => by cases h
  | (b', o') :: l, hk, b, o, h => by
    obtain ⟨h1, h2⟩ := hk _ (List.mem_cons_self ..)
    unfold ofPairs at h
    rw [setO_eq, PT.setK_eq, PT.get_set _ _ _ _ (by unfold far; omega)] at h
    by_cases hb : b = b'
    · rw [if_pos hb] at h
      cases h
      subst hb
      exact h2
    · rw [if_neg hb] at h
      exact ofPairs_get t l (fun p hp => hk p (List.mem_cons_of_mem _ hp)) b o h

theorem heapOK_get (t : PT AObj) : ∀ (l : List (Nat × AObj)), heapOK t l = true → ∀ p ∈ l, p.1 < 1000000000 ∧ t.get p.1 = some p.2
  | [], _, p, hp => by cases hp
  | (b, o) :: l, hk, p, hp => by
    simp only [heapOK, Bool.and_eq_true] at hk
    obtain ⟨⟨h1, h2⟩, h3⟩ := hk
    rcases List.mem_cons.1 hp with rfl | hp
    · rw [nblt, decide_eq_true_eq] at h1
      refine ⟨h1, ?_⟩
      rw [gO_eq, PT.getK_eq] at h2
      show t.get b = some o
      cases hg : t.get b with
      | none => rw [hg] at h2; cases h2
      | some x => rw [hg] at h2; rw [objEq_eq _ _ h2]
    · exact heapOK_get t l h3 p hp

/-! loops and lists of deferred calls: held by what they reduce to. -/
abbrev LoopL := LoopState × Option Code × FuncId × Nat × List Tmp × Code × Code × Nat
noncomputable def loopL (t : PT AObj) (b : Nat) : Option LoopL := match gO t b with | some (.loop st pe fn _ n ps a bd d) => some (st, pe, fn, n, ps, a, bd, d) | _ => none
noncomputable def loopT (t : PT AObj) (b : Nat) (T : PT Value) : Bool := match gO t b with | some (.loop _ _ _ T' _ _ _ _ _) => ptEq T' T | _ => false
noncomputable def defL (t : PT AObj) (b : Nat) : Option (Option (List Deferred)) := match gO t b with | some (.deferred ds) => some ds | _ => none
def mkLoop (x : LoopL) (T : PT Value) : AObj := .loop x.1 x.2.1 x.2.2.1 T x.2.2.2.1 x.2.2.2.2.1 x.2.2.2.2.2.1 x.2.2.2.2.2.2.1 x.2.2.2.2.2.2.2

noncomputable def loopsOK (t : PT AObj) : List (Nat × LoopL × PT Value) → Bool
  | [] => true
  | (b, _, T) :: l => Nat.blt b 1000000000 && loopT t b T && loopsOK t l
noncomputable def defsOK : List (Nat × Option (List Deferred)) → Bool
  | [] => true
  | (b, _) :: l => Nat.blt b 1000000000 && defsOK l
noncomputable def mkLoops (l : List (Nat × LoopL × PT Value)) : List (Nat × AObj) := l.map fun x => (x.1, mkLoop x.2.1 x.2.2)
noncomputable def mkDefs (l : List (Nat × Option (List Deferred))) : List (Nat × AObj) := l.map fun x => (x.1, .deferred x.2)

theorem loops_get (t : PT AObj) : ∀ (l : List (Nat × LoopL × PT Value)), loopsOK t l = true → l.map (fun x => loopL t x.1) = l.map (fun x => some x.2.1) → ∀ p ∈ mkLoops l, p.1 < 1000000000 ∧ t.get p.1 = some p.2
  | [], _, _, p, hp => by cases hp
  | (b, x, T) :: l, hk, hl, p, hp => by
    simp only [loopsOK, Bool.and_eq_true] at hk
    obtain ⟨⟨h1, h2⟩, h3⟩ := hk
    simp only [List.map_cons, List.cons.injEq] at hl
    obtain ⟨hl1, hl2⟩ := hl
    simp only [mkLoops, List.map_cons] at hp
    rcases List.mem_cons.1 hp with rfl | hp
    · rw [nblt, decide_eq_true_eq] at h1
      refine ⟨h1, ?_⟩
      show t.get b = some (mkLoop x T)
      unfold loopL at hl1
      unfold loopT at h2
      rw [gO_eq, PT.getK_eq] at hl1 h2
      cases hg : t.get b with
      | none => rw [hg] at h2; cases h2
      | some o =>
        rw [hg] at h2 hl1
        cases o <;> try (cases h2; done)
        simp only [Option.some.injEq] at hl1
        simp only at h2
        rw [← hl1, ptEq_eq _ _ h2]; rfl
    · exact loops_get t l h3 hl2 p hp

theorem defs_get (t : PT AObj) : ∀ (l : List (Nat × Option (List Deferred))), defsOK l = true → l.map (fun x => defL t x.1) = l.map (fun x => some x.2) → ∀ p ∈ mkDefs l, p.1 < 1000000000 ∧ t.get p.1 = some p.2
  | [], _, _, p, hp => by cases hp
  | (b, x) :: l, hk, hl, p, hp => by
    simp only [defsOK, Bool.and_eq_true] at hk
    obtain ⟨h1, h3⟩ := hk
    simp only [List.map_cons, List.cons.injEq] at hl
    obtain ⟨hl1, hl2⟩ := hl
    simp only [mkDefs, List.map_cons] at hp
    rcases List.mem_cons.1 hp with rfl | hp
    · rw [nblt, decide_eq_true_eq] at h1
      refine ⟨h1, ?_⟩
      show t.get b = some (.deferred x)
      unfold defL at hl1
      rw [gO_eq, PT.getK_eq] at hl1
      cases hg : t.get b with
      | none => rw [hg] at hl1; cases hl1
      | some o =>
        rw [hg] at hl1
        cases o <;> try (cases hl1; done)
        simp only [Option.some.injEq] at hl1
        rw [hl1]
    · exact defs_get t l h3 hl2 p hp

/-- the outline of a frame: all but its temporaries. -/
def AFrame.line (fr : AFrame) : Nat × Nat × List AItem × List Deferred × FrameMode × CallKind × Option Nat := (fr.fn, fr.n, fr.todo, fr.defers, fr.mode, fr.kind, fr.roundOf)
def tmpsOK : List AFrame → List (PT Value) → Bool
  | [], [] => true
  | fr :: l, T :: m => ptEq fr.tmps T && tmpsOK l m
  | _, _ => false

abbrev Line := Nat × Nat × List AItem × List Deferred × FrameMode × CallKind × Option Nat
def mkFr (x : Line) (T : PT Value) : AFrame := ⟨x.1, x.2.1, T, x.2.2.1, x.2.2.2.1, x.2.2.2.2.1, x.2.2.2.2.2.1, x.2.2.2.2.2.2⟩
def mkFrs : List Line → List (PT Value) → List AFrame
  | x :: l, T :: m => mkFr x T :: mkFrs l m
  | _, _ => []

noncomputable def mkS (x : Line) (T : PT Value) (l : List Line) (m : List (PT Value)) (hp : List (Nat × AObj)) (lp : List (Nat × LoopL × PT Value)) (dp : List (Nat × Option (List Deferred))) (fams : PT Fam) (next : Nat) : AS :=
  ⟨mkFr x T, mkFrs l m, ⟨ofPairs (hp ++ (mkLoops lp ++ mkDefs dp)), fams, next⟩⟩

def linesOf (s : AS) : List Line := (s.fr :: s.callers).map AFrame.line
noncomputable def dataOK (s : AS) (m : List (PT Value)) (hp : List (Nat × AObj)) (lp : List (Nat × LoopL × PT Value)) (dp : List (Nat × Option (List Deferred))) (fams : PT Fam) (next : Nat) : Bool :=
  tmpsOK (s.fr :: s.callers) m && heapOK s.h.tree hp && loopsOK s.h.tree lp && defsOK dp && pfEq s.h.fams fams && Nat.beq s.h.next next

theorem mkFrs_eq : ∀ (l : List AFrame) (m : List (PT Value)), tmpsOK l m = true → mkFrs (l.map AFrame.line) m = l
  | [], [], _ => rfl
  | fr :: l, T :: m, h => by
    simp only [tmpsOK, Bool.and_eq_true] at h
    have hT := ptEq_eq _ _ h.1
    subst hT
    show mkFr fr.line fr.tmps :: mkFrs (l.map AFrame.line) m = _
    rw [mkFrs_eq l m h.2]; rfl
  | [], _ :: _, h => by cases h
  | _ :: _, [], h => by cases h

/-- what a state comes to, as it is held against what is written. -/
noncomputable def viewOf (s : AS) (m : List (PT Value)) (hp : List (Nat × AObj)) (lp : List (Nat × LoopL × PT Value)) (dp : List (Nat × Option (List Deferred))) (fams : PT Fam) (next : Nat) : List Line × List (Option LoopL) × List (Option (Option (List Deferred))) × Bool :=
  (linesOf s, lp.map (fun x => loopL s.h.tree x.1), dp.map (fun x => defL s.h.tree x.1), dataOK s m hp lp dp fams next)

theorem cov_of {s : AS} {x : Line} {l : List Line} {T : PT Value} {m : List (PT Value)} {hp : List (Nat × AObj)} {lp : List (Nat × LoopL × PT Value)} {dp : List (Nat × Option (List Deferred))} {fams : PT Fam} {next : Nat}
    (h : viewOf s (T :: m) hp lp dp fams next = (x :: l, lp.map (fun x => some x.2.1), dp.map (fun x => some x.2), true)) : Cov s (mkS x T l m hp lp dp fams next) := by
  obtain ⟨fr, callers, ⟨tree, fs, nx⟩⟩ := s
  obtain ⟨h1, h2⟩ := Prod.mk.inj h
  obtain ⟨hl, h2⟩ := Prod.mk.inj h2
  obtain ⟨hd, h2⟩ := Prod.mk.inj h2
  simp only [dataOK, Bool.and_eq_true] at h2
  obtain ⟨⟨⟨⟨⟨a1, a2⟩, a5⟩, a6⟩, a3⟩, a4⟩ := h2
  have hm := mkFrs_eq _ _ a1
  have h1' : (fr :: callers).map AFrame.line = x :: l := h1
  rw [h1'] at hm
  have hm' : mkFr x T :: mkFrs l m = fr :: callers := hm
  rw [List.cons.injEq] at hm'
  rw [nbeq, decide_eq_true_eq] at a4
  refine ⟨hm'.1, hm'.2, (pfEq_eq _ _ a3).symm, a4.symm, fun b o hg => ofPairs_get tree _ ?_ b o hg⟩
  intro p hp
  rcases List.mem_append.1 hp with hp | hp
  · exact heapOK_get tree _ a2 p hp
  · rcases List.mem_append.1 hp with hp | hp
    · exact loops_get tree _ a5 hl p hp
    · exact defs_get tree _ a6 hd p hp

/-- one piece. -/
theorem Reach.piece (G : Good P X) {s0 s : AS} (hr : Reach P s0 s) (n : Nat) {x : Line} {l : List Line} {T : PT Value} {m : List (PT Value)} {hp : List (Nat × AObj)} {lp : List (Nat × LoopL × PT Value)} {dp : List (Nat × Option (List Deferred))} {fams : PT Fam} {next : Nat}
    (h : viewOf (runC n P X (ofAS s)) (T :: m) hp lp dp fams next = (x :: l, lp.map (fun x => some x.2.1), dp.map (fun x => some x.2), true)) : Reach P s0 (mkS x T l m hp lp dp fams next) := by
  have h2 : runC n P X (ofAS s) = runA P X n s := by rw [runC_eq, toAS_ofAS]
  rw [h2] at h
  exact (hr.run G n).cov (cov_of h)

/-! ### how a state is written -/
/-- a place in a body. -/
def cAtC : Code → List Nat → Code
  | c, [] => c
  | .seq a b, i :: p => cond (Nat.beq i 0) (cAtC a p) (cAtC b p)
  | .cond _ a b, i :: p => cond (Nat.beq i 0) (cAtC a p) (cAtC b p)
  | .block _ a, _ :: p => cAtC a p
  | .loop a, _ :: p => cAtC a p
  | .scope a, _ :: p => cAtC a p
  | .rangeFunc _ _ a b, i :: p => cond (Nat.beq i 0) (cAtC a p) (cAtC b p)
  | c, _ :: _ => c
noncomputable def cAt (P : Program) (f : Nat) (p : List Nat) : Code :=
  match funcC P f with
  | some fn => match fn.body with
    | some c => cAtC c p
    | none => .skip
  | none => .skip
def opsOf : Code → Array Oper
  | .region _ ops _ => ops
  | _ => #[]
noncomputable def rAt (P : Program) (f : Nat) (p : List Nat) (j : Nat) : AItem := .inRegion (opsOf (cAt P f p)) ((opsOf (cAt P f p)).toList.drop j)
noncomputable def tOf : List (Nat × Value) → PT Value
  | [] => .leaf
  | (i, v) :: l => setV (tOf l) i v
noncomputable def fOf : List (Nat × Nat × Nat × Bool) → PT Fam
  | [] => .leaf
  | (i, a, b, c) :: l => PT.setK 64 (fOf l) i ⟨a, b, c⟩
def bv (b : Bool) : Value := .bool b
def i64 (n : Nat) : Value := .int .i64 (.ofNat n)
def i32 (n : Nat) : Value := .int .i32 (.ofNat n)
def u64 (n : Nat) : Value := .int .u64 (.ofNat n)
def u32 (n : Nat) : Value := .int .u32 (.ofNat n)
def u8 (n : Nat) : Value := .int .u8 (.ofNat n)
def iv (k : IntKind) (n : Nat) : Value := .int k (.ofNat n)
def ng (k : IntKind) (n : Nat) : Value := .int k (.negSucc n)
def sv (l : List Nat) : Value := .string ⟨(l.map UInt8.ofNat).toArray⟩
def pv (b o : Nat) : Value := .pointer (some ⟨b, o, none⟩)
def pn : Value := .pointer none
def lv (b o n c : Nat) : Value := .slice (some ⟨b, o, none⟩) n c
def ln (n c : Nat) : Value := .slice none n c
def mv (b : Nat) : Value := .map (some b)
def av (l : List Value) : Value := .agg l.toArray
def tv (l : List Value) : Value := .tuple l.toArray
def fv (f : Nat) (a c : List Value) : Value := .func (.func f) a.toArray c.toArray
def xv (t : Nat) (v : Value) : Value := .iface t v
def ro (cs : List Value) (n es f d : Nat) : AObj := .row cs n es f d
def dc (r : Nat) : Deferred := ⟨.collected r, #[]⟩
def yv (l : Nat) (a c : List Value) : Value := .func (.yield l) a.toArray c.toArray
def wv (t : Nat) (f : Nat) (q : Bool) (a c : List Value) : Value := .func (.via t #[] f q) a.toArray c.toArray
def df (f : Nat) (c a : List Value) : Deferred := ⟨.fn (.func f) c.toArray, a.toArray⟩
end
end Go.AM
