import GoSem.Core.Code
import GoSem.Machine.Frame
import Derived.Calls
import Derived.Laws.Append
import Derived.Laws.Rows
import Derived.Laws.IdiomCopy
import Derived.Deep.MidRow
import Derived.Laws.Tables
import Derived.Laws.StructEq
import Derived.Laws.Build
/- An evaluator of the model's code on an abstract heap, and how its heaps and values stand for the model's. -/
set_option linter.all false
noncomputable section
/- An evaluator of the model's code on an abstract heap: blocks have names of their own, no order is drawn, no capacity is known. -/
namespace Go.Ab

inductive Tr (α : Type) where
  | e
  | n (l : Tr α) (v : Option α) (r : Tr α)

namespace Tr
variable {α : Type}
def get0 : Tr α → Nat → Option α
  | .e, _ => none
  | .n l v r, k => if k = 0 then v else if (k - 1) % 2 = 0 then l.get0 ((k - 1) / 2) else r.get0 ((k - 1) / 2)

def set0 (x : Option α) : Nat → Tr α → Nat → Tr α
  | 0, t, _ => t
  | f + 1, .e, k =>
    if k = 0 then .n .e x .e else if (k - 1) % 2 = 0 then .n (set0 x f .e ((k - 1) / 2)) none .e else .n .e none (set0 x f .e ((k - 1) / 2))
  | f + 1, .n l v r, k =>
    if k = 0 then .n l x r else if (k - 1) % 2 = 0 then .n (set0 x f l ((k - 1) / 2)) v r else .n l v (set0 x f r ((k - 1) / 2))

/-- the same by the recursors: the kernel is quicker at it -/
noncomputable def get (t : Tr α) : Nat → Option α :=
  Tr.rec (motive := fun _ => Nat → Option α) (fun _ => none) (fun _ v _ gl gr k => Nat.casesOn k v (fun k => Bool.rec (gl (Nat.div k 2)) (gr (Nat.div k 2)) (Nat.beq (Nat.mod k 2) 1))) t
noncomputable def set (x : Option α) (f : Nat) : Tr α → Nat → Tr α :=
  Nat.rec (motive := fun _ => Tr α → Nat → Tr α) (fun t _ => t) (fun _ ih t k => Tr.casesOn t
     (Nat.casesOn k (.n .e x .e) (fun k => Bool.rec (.n (ih .e (Nat.div k 2)) none .e) (.n .e none (ih .e (Nat.div k 2))) (Nat.beq (Nat.mod k 2) 1)))
     (fun l v r => Nat.casesOn k (.n l x r) (fun k => Bool.rec (.n (ih l (Nat.div k 2)) v r) (.n l v (ih r (Nat.div k 2))) (Nat.beq (Nat.mod k 2) 1)))) f
theorem odd (k : Nat) : Nat.beq (k % 2) 1 = !decide (k % 2 = 0) := by
  rcases Nat.mod_two_eq_zero_or_one k with h | h <;> rw [h] <;> rfl
theorem get_n (l : Tr α) (v : Option α) (r : Tr α) (k : Nat) : (Tr.n l v r).get k = if k = 0 then v else if (k - 1) % 2 = 0 then l.get ((k - 1) / 2) else r.get ((k - 1) / 2) := by
  cases k with
  | zero => rfl
  | succ k =>
    show Bool.rec (motive := fun _ => Option α) (l.get (k / 2)) (r.get (k / 2)) (Nat.beq (k % 2) 1) = _
    rw [odd]
    simp only [Nat.add_sub_cancel, Nat.add_one_ne_zero, if_false]
    by_cases h : k % 2 = 0 <;> simp [h]
theorem get_e' (k : Nat) : (Tr.e : Tr α).get k = none := rfl
theorem set_z (x : Option α) (t : Tr α) (k : Nat) : set x 0 t k = t := rfl
theorem set_e (x : Option α) (f k : Nat) : set x (f + 1) .e k = if k = 0 then .n .e x .e else if (k - 1) % 2 = 0 then .n (set x f .e ((k - 1) / 2)) none .e else .n .e none (set x f .e ((k - 1) / 2)) := by
  cases k with
  | zero => rfl
  | succ k =>
    show Bool.rec (motive := fun _ => Tr α) (Tr.n (set x f .e (k / 2)) none .e) (.n .e none (set x f .e (k / 2))) (Nat.beq (k % 2) 1) = _
    rw [odd]
    simp only [Nat.add_sub_cancel, Nat.add_one_ne_zero, if_false]
    by_cases h : k % 2 = 0 <;> simp [h]
theorem set_n (x : Option α) (f k : Nat) (l : Tr α) (v : Option α) (r : Tr α) : set x (f + 1) (.n l v r) k = if k = 0 then .n l x r else if (k - 1) % 2 = 0 then .n (set x f l ((k - 1) / 2)) v r else .n l v (set x f r ((k - 1) / 2)) := by
  cases k with
  | zero => rfl
  | succ k =>
    show Bool.rec (motive := fun _ => Tr α) (Tr.n (set x f l (k / 2)) v r) (.n l v (set x f r (k / 2))) (Nat.beq (k % 2) 1) = _
    rw [odd]
    simp only [Nat.add_sub_cancel, Nat.add_one_ne_zero, if_false]
    by_cases h : k % 2 = 0 <;> simp [h]

/-- how deep keys go: keys below 2^d - 1 -/
def deep : Nat := 24
def put (t : Tr α) (k : Nat) (x : α) : Tr α := set (some x) deep t k
def del (t : Tr α) (k : Nat) : Tr α := set none deep t k

theorem get_e (k : Nat) : (Tr.e : Tr α).get k = none := rfl

theorem get_set (x : Option α) : ∀ (f : Nat) (t : Tr α) (k j : Nat), k + 1 < 2 ^ f → (set x f t k).get j = if j = k then x else t.get j := by
  intro f
  induction f with
  | zero => intro t k j h; simp at h
  | succ f ih =>
    intro t k j h
    have hk : (k - 1) / 2 + 1 < 2 ^ f ∨ k = 0 := by
      rw [Nat.pow_succ] at h
      omega
    cases t with
    | e =>
      by_cases h0 : k = 0
      · subst h0
        by_cases hj : j = 0 <;> simp [set_e, set_n, get_n, get_e', hj]
      · have hk := hk.resolve_right h0
        by_cases h1 : (k - 1) % 2 = 0
        · simp only [set_z, set_e, set_n, h0, h1, if_true, if_false, get_n, get_e', ih _ _ _ hk]
          by_cases hj : j = 0
          · subst hj; simp [Ne.symm h0]
          · by_cases hj1 : (j - 1) % 2 = 0
            · simp only [hj, hj1, if_true, if_false]
              have : ((j - 1) / 2 = (k - 1) / 2) ↔ j = k := by omega
              simp only [this]
            · simp only [hj, hj1, if_false]
              rw [if_neg (by rintro rfl; exact hj1 h1)]
        · simp only [set_z, set_e, set_n, h0, h1, if_true, if_false, get_n, get_e', ih _ _ _ hk]
          by_cases hj : j = 0
          · subst hj; simp [Ne.symm h0]
          · by_cases hj1 : (j - 1) % 2 = 0
            · simp only [hj, hj1, if_true, if_false]
              rw [if_neg (by rintro rfl; exact h1 hj1)]
            · simp only [hj, hj1, if_false]
              have : ((j - 1) / 2 = (k - 1) / 2) ↔ j = k := by omega
              simp only [this]
    | n l v r =>
      by_cases h0 : k = 0
      · subst h0
        by_cases hj : j = 0 <;> simp [set_e, set_n, get_n, get_e', hj]
      · have hk := hk.resolve_right h0
        by_cases h1 : (k - 1) % 2 = 0
        · simp only [set_z, set_e, set_n, h0, h1, if_true, if_false, get_n, get_e', ih _ _ _ hk]
          by_cases hj : j = 0
          · subst hj; simp [Ne.symm h0]
          · by_cases hj1 : (j - 1) % 2 = 0
            · simp only [hj, hj1, if_true, if_false]
              have : ((j - 1) / 2 = (k - 1) / 2) ↔ j = k := by omega
              simp only [this]
            · simp only [hj, hj1, if_false]
              rw [if_neg (by rintro rfl; exact hj1 h1)]
        · simp only [set_z, set_e, set_n, h0, h1, if_true, if_false, get_n, get_e', ih _ _ _ hk]
          by_cases hj : j = 0
          · subst hj; simp [Ne.symm h0]
          · by_cases hj1 : (j - 1) % 2 = 0
            · simp only [hj, hj1, if_true, if_false]
              rw [if_neg (by rintro rfl; exact h1 hj1)]
            · simp only [hj, hj1, if_false]
              have : ((j - 1) / 2 = (k - 1) / 2) ↔ j = k := by omega
              simp only [this]

/-- what is laid beyond the depth is lost: nothing is found there -/
theorem get_set_beyond (x : Option α) : ∀ (f : Nat) (t : Tr α) (k : Nat), ¬ k + 1 < 2 ^ f → ∀ j, (set x f t k).get j = t.get j := by
  intro f
  induction f with
  | zero => intro t k h j; rfl
  | succ f ih =>
    intro t k h j
    have h0 : k ≠ 0 := by
      rintro rfl
      apply h
      have : 2 ≤ 2 ^ (f + 1) := by rw [Nat.pow_succ]; have := Nat.one_le_two_pow (n := f); omega
      omega
    have hk : ¬ (k - 1) / 2 + 1 < 2 ^ f := by
      rw [Nat.pow_succ] at h
      omega
    cases t with
    | e =>
      by_cases h1 : (k - 1) % 2 = 0 <;> simp only [set_z, set_e, set_n, h0, h1, if_true, if_false, get_n, get_e', ih _ _ hk] <;> (repeat' split) <;> simp_all [get_e']
    | n l v r =>
      by_cases h1 : (k - 1) % 2 = 0 <;> simp only [set_z, set_e, set_n, h0, h1, if_true, if_false, get_n, get_e', ih _ _ hk]

theorem get_put_ne (t : Tr α) {k j : Nat} (x : α) (h : j ≠ k) : (t.put k x).get j = t.get j := by
  unfold put
  by_cases hk : k + 1 < 2 ^ deep
  · rw [get_set _ _ _ _ _ hk, if_neg h]
  · exact get_set_beyond _ _ _ _ hk j
theorem get_del_ne (t : Tr α) {k j : Nat} (h : j ≠ k) : (t.del k).get j = t.get j := by
  unfold del
  by_cases hk : k + 1 < 2 ^ deep
  · rw [get_set _ _ _ _ _ hk, if_neg h]
  · exact get_set_beyond _ _ _ _ hk j
/-- what is found at a key that was laid is what was laid, or what was there -/
theorem get_put_self (t : Tr α) (k : Nat) (x : α) : (t.put k x).get k = some x ∨ (t.put k x).get k = t.get k := by
  unfold put
  by_cases hk : k + 1 < 2 ^ deep
  · rw [get_set _ _ _ _ _ hk, if_pos rfl]; exact .inl rfl
  · exact .inr (get_set_beyond _ _ _ _ hk k)
theorem get_put_lt (t : Tr α) (k : Nat) (x : α) (hk : k + 1 < 2 ^ deep) : (t.put k x).get k = some x := by
  unfold put; rw [get_set _ _ _ _ _ hk, if_pos rfl]
end Tr
end Go.Ab

namespace Go.Ab

/-- what a type is, as far as the evaluator asks -/
inductive D where
  | struct (fs : List (Nat × Nat × Bool))
  | array (n : Nat) (e : Nat) (sz : Nat)
  | slice (e : Nat) (sz : Nat)
  | int (k : IntKind)
  | bool | string | func | other | pointer
  | map (k e : Nat)
structure TI where
  size : Nat
  agg : Bool
  zero : List Value
  /-- a struct of numbers (true) and bools (false) alone, cell by cell -/
  flat : List Bool := []
  d : D

inductive Blk where
  | cells (ty n : Nat) (c : Tr Value)
  | map (ty : Nat) (es : List (Nat × Value))

structure Mem where
  h : Tr Blk
  nx : Nat

abbrev Tm := Tr Value

def undefV : Value := .tuple #[]

def ev (t : Tm) : Operand → Value
  | .tmp i => (t.get i).getD undefV
  | .const v => v
  | .global g => .pointer (some ⟨g, 0, none⟩)
  | .func f => .func (.func f) #[] #[]

/-- the cells of a value -/
def cellsOf : Value → Option (List Value)
  | .agg cs => some cs.toList
  | .tuple _ => none
  | v => some [v]

def lay : List Value → Nat → Tr Value → Tr Value
  | [], _, t => t
  | v :: r, i, t => lay r (i + 1) (t.put i v)

/-- n cells from i on -/
def row (c : Tr Value) : Nat → Nat → Option (List Value)
  | 0, _ => some []
  | n + 1, i => do
    let v ← c.get i
    let l ← row c n (i + 1)
    pure (v :: l)

def Mem.new (m : Mem) (B : Blk) : Option (Nat × Mem) :=
  if m.nx + 1 < 2 ^ Tr.deep then some (m.nx, { h := m.h.put m.nx B, nx := m.nx + 1 }) else none

def small (n : Nat) : Option Unit := if n + 1 < 2 ^ Tr.deep then some () else none

/-- a new row of cells -/
def Mem.newRow (m : Mem) (ty : Nat) (cs : List Value) : Option (Nat × Mem) := do
  small cs.length
  m.new (.cells ty cs.length (lay cs 0 .e))

def Mem.cells (m : Mem) (b : Nat) : Option (Nat × Nat × Tr Value) :=
  match m.h.get b with
  | some (.cells ty n c) => some (ty, n, c)
  | _ => none

def Mem.store (m : Mem) (b off : Nat) (vs : List Value) : Option Mem := do
  let (ty, n, c) ← m.cells b
  if off + vs.length ≤ n then some { m with h := m.h.put b (.cells ty n (lay vs off c)) } else none

def Mem.load (m : Mem) (b off sz : Nat) (agg : Bool) : Option Value := do
  let (_, n, c) ← m.cells b
  match agg with
  | true => if off + sz ≤ n then (do let l ← row c sz off; pure (.agg ⟨l⟩)) else none
  | false => if off < n then c.get off else none

def addrOf : Value → Option (Nat × Nat)
  | .pointer (some ⟨b, o, none⟩) => some (b, o)
  | _ => none

def natOf : Value → Option Nat
  | .int _ (.ofNat n) => some n
  | _ => none

/-- a bound of a slice expression -/
def bndD (t : Tm) (d : Nat) : Option Operand → Option Nat
  | none => some d
  | some o => natOf (ev t o)

def sameCell (isInt : Bool) (x y : Value) : Option Bool :=
  match isInt, x, y with
  | true, .int j a, .int k b => if j = k then some (a == b) else none
  | false, .bool a, .bool b => some (a == b)
  | _, _, _ => none
def sameCells : List Bool → List Value → List Value → Option Bool
  | [], [], [] => some true
  | f :: fs, a :: r, b :: s => do
    match ← sameCell f a b with
    | true => sameCells fs r s
    | false => pure false
  | _, _, _ => none

/-- two that are no numbers, of a type -/
def eqlT (i : TI) (x y : Value) : Option Bool :=
  match i.d, x, y with
  | .bool, .bool a, .bool b => some (a == b)
  | .pointer, .pointer none, .pointer none => some true
  | .pointer, .pointer none, .pointer (some _) => some false
  | .pointer, .pointer (some _), .pointer none => some false
  | .slice _ _, .slice none _ _, .slice none _ _ => some true
  | .slice _ _, .slice none _ _, .slice (some _) _ _ => some false
  | .slice _ _, .slice (some _) _ _, .slice none _ _ => some false
  | .struct _, .agg a, .agg b => if a.size = i.flat.length ∧ b.size = i.flat.length ∧ i.flat ≠ [] then sameCells i.flat a.toList b.toList else none
  | _, _, _ => none
def eqlD (ti : Tr TI) (ty : TypeId) (x y : Value) : Option Bool :=
  match x, y with
  | .int j a, .int k b => if j = k then some (a == b) else none
  | .string a, .string b => some (a.toList == b.toList)
  | x, y => do
    let i ← ti.get ty
    eqlT i x y

def intD (op : BinOp) (k : IntKind) (a b : Int) : Option Value :=
  match op with
  | .add => some (.int k (k.wrap (a + b)))
  | .sub => some (.int k (k.wrap (a - b)))
  | .mul => some (.int k (k.wrap (a * b)))
  | .quo => if b = 0 then none else some (.int k (k.wrap (a.tdiv b)))
  | .rem => if b = 0 then none else some (.int k (a.tmod b))
  | .and => some (.int k (k.wrap (BitVec.ofInt k.bits a &&& BitVec.ofInt k.bits b).toNat))
  | .or => some (.int k (k.wrap (BitVec.ofInt k.bits a ||| BitVec.ofInt k.bits b).toNat))
  | .xor => some (.int k (k.wrap (BitVec.ofInt k.bits a ^^^ BitVec.ofInt k.bits b).toNat))
  | .andNot => some (.int k (k.wrap (BitVec.ofInt k.bits a &&& ~~~ BitVec.ofInt k.bits b).toNat))
  | .lss => some (.bool (a < b))
  | .leq => some (.bool (a ≤ b))
  | .gtr => some (.bool (a > b))
  | .geq => some (.bool (a ≥ b))
  | _ => none
def binD (ti : Tr TI) (op : BinOp) (ty : TypeId) (x y : Value) : Option Value :=
  match op with
  | .shl => match x, y with
    | .int k a, .int _ b => if b < 0 then none else some (.int k (k.wrap (a * 2 ^ (min b.toNat k.bits))))
    | _, _ => none
  | .shr => match x, y with
    | .int k a, .int _ b => if b < 0 then none else some (.int k (a.fdiv (2 ^ (min b.toNat k.bits))))
    | _, _ => none
  | .eql => do pure (.bool (← eqlD ti ty x y))
  | .neq => do pure (.bool (!(← eqlD ti ty x y)))
  | op => match x, y with
    | .int j a, .int k b => if j = k then intD op j a b else none
    | _, _ => none

def unD (op : UnOp) (x : Value) : Option Value :=
  match op, x with
  | .not, .bool b => some (.bool !b)
  | .neg, .int k n => some (.int k (k.wrap (0 - n)))
  | .xor, .int k n => some (.int k (k.wrap (BitVec.ofInt k.bits (if k.signed then -1 else k.max) ^^^ BitVec.ofInt k.bits n).toNat))
  | _, _ => none

def rep (n : Nat) (z : List Value) : List Value := match n with | 0 => [] | n + 1 => z ++ rep n z

def strCells (s : ByteArray) : List Value := s.data.toList.map fun b => .int .u8 b.toNat
def bytesOf : List Value → Option (List UInt8)
  | [] => some []
  | .int .u8 n :: r => do let l ← bytesOf r; pure (UInt8.ofNat n.toNat :: l)
  | _ => none

/-- parts laid into cells: where, how many -/
def fill (place : Nat → Option (Nat × Nat)) (t : Tm) : List (Nat × Operand) → List Value → Option (List Value)
  | [], c => some c
  | (i, x) :: r, c => do
    let (off, sz) ← place i
    let vs ← cellsOf (ev t x)
    if vs.length = sz ∧ off + sz ≤ c.length then fill place t r (c.take off ++ vs ++ c.drop (off + sz)) else none

/-- a part of an aggregate -/
def partD (agg : Bool) (off sz : Nat) (cs : List Value) : Option Value :=
  match agg with
  | true => if off + sz ≤ cs.length then some (.agg ⟨(cs.drop off).take sz⟩) else none
  | false => cs[off]?

/-- what an append reads: cells, how many elements -/
def srcD (sz : Nat) (m : Mem) : Value → Option (List Value × Nat)
  | .slice none _ _ => some ([], 0)
  | .slice (some ⟨b, off, none⟩) l _ =>
    match l with
    | 0 => some ([], 0)
    | l + 1 => do
      let (_, n, c) ← m.cells b
      if off + (l + 1) * sz ≤ n then (do let cs ← row c ((l + 1) * sz) off; pure (cs, l + 1)) else none
  | _ => none

def appendD (e sz bytes : Nat) (s x : Value) (m : Mem) : Option (Value × Mem) := do
  let (new, k) ← srcD sz m x
  match k with
  | 0 => match s with
    | .slice _ _ _ => pure (s, m)
    | _ => none
  | k + 1 => match s with
    | .slice none _ _ =>
      if (k + 1) * bytes ≤ 1073741824 then (do
        let (b, m) ← m.newRow e new
        pure (.slice (some ⟨b, 0, none⟩) (k + 1) 0, m)) else none
    | .slice (some ⟨b, off, none⟩) l c => do
      let (ty, n, cs) ← m.cells b
      if ty = e ∧ off + l * sz ≤ n ∧ (l + (k + 1)) * bytes ≤ 1073741824 then (do
        let old ← row cs (l * sz) off
        let (b', m') ← m.newRow e (old ++ new)
        pure (.slice (some ⟨b', 0, none⟩) (l + (k + 1)) 0, if c = 1 then m' else { m' with h := m'.h.del b })) else none
    | _ => none

def findE (k : Nat) : List (Nat × Value) → Option Value
  | [] => none
  | (j, v) :: r => if k = j then some v else findE k r
def setE (k : Nat) (v : Value) : List (Nat × Value) → List (Nat × Value)
  | [] => [(k, v)]
  | (j, u) :: r => if k = j then (j, v) :: r else (j, u) :: setE k v r
def delE (k : Nat) : List (Nat × Value) → List (Nat × Value)
  | [] => []
  | (j, u) :: r => if k = j then r else (j, u) :: delE k r

def mnx (isMin : Bool) (k : IntKind) : Int → List Value → Option Value
  | a, [] => some (.int k a)
  | a, .int _ b :: r => mnx isMin k (match isMin with | true => if b < a then b else a | false => if b > a then b else a) r
  | _, _ => none

section
variable (ti : Tr TI)

def builtinD (b : Builtin) (c : Call) (l : List Value) (m : Mem) : Option (Value × Mem) :=
  match b, l with
  | .len, [.slice _ n _] => match c.argTypes.toList with
    | [ty] => do
      let i ← ti.get ty
      match i.d with
      | .slice _ _ => pure (.int .i64 n, m)
      | _ => none
    | _ => none
  | .len, [.string s] => match c.argTypes.toList with
    | [ty] => do
      let i ← ti.get ty
      match i.d with
      | .string => pure (.int .i64 s.size, m)
      | _ => none
    | _ => none
  | .min, .int k a :: r => do pure (← mnx true k a r, m)
  | .max, .int k a :: r => do pure (← mnx false k a r, m)
  | .append, [s, x] => match c.argTypes.toList with
    | [ty, tx] => if ty = tx then (do
      let i ← ti.get ty
      match i.d with
      | .slice e sz => do
        let ie ← ti.get e
        if 0 < sz ∧ ie.size = sz then appendD e sz (24 * sz) s x m else none
      | _ => none) else none
    | _ => none
  | .delete, [.map (some b), .int .i64 (.ofNat k)] => match c.argTypes.toList with
    | [ty, _] => do
      let i ← ti.get ty
      match i.d, m.h.get b with
      | .map kt _, some (.map ty' es) => do
        let ik ← ti.get kt
        match ik.d with
        | .int .i64 => pure (.tuple #[], { m with h := m.h.put b (.map ty' (delE k es)) })
        | _ => none
      | _, _ => none
    | _ => none
  | _, _ => none

def opD (call : Nat → List Value → Mem → Option (Value × Mem)) (o : Op) (t : Tm) (m : Mem) : Option (Value × Mem) :=
  match o with
  | .move x | .assign x => some (ev t x, m)
  | .pick c a b => match ev t c with
    | .bool true => some (ev t a, m)
    | .bool false => some (ev t b, m)
    | _ => none
  | .alloc ty => do
    let i ← ti.get ty
    let (b, m) ← m.newRow ty i.zero
    pure (.pointer (some ⟨b, 0, none⟩), m)
  | .box ty x => do
    let vs ← cellsOf (ev t x)
    let (b, m) ← m.newRow ty vs
    pure (.pointer (some ⟨b, 0, none⟩), m)
  | .build ty ps => do
    let i ← ti.get ty
    match i.d with
    | .struct fs => do
      let l ← fill (fun f => (fs[f]?).map fun p => (p.1, p.2.1)) t ps.toList i.zero
      pure (.agg ⟨l⟩, m)
    | .array _ _ sz => do
      let l ← fill (fun f => some (f * sz, sz)) t ps.toList i.zero
      pure (.agg ⟨l⟩, m)
    | _ => none
  | .buildSlice ty len ps => do
    let i ← ti.get ty
    match i.d with
    | .slice e sz => do
      let j ← ti.get e
      let l ← fill (fun f => some (f * sz, sz)) t ps.toList (rep len j.zero)
      if len * sz ≤ 1024 ∧ 0 < sz then (do
        let (b, m) ← m.newRow e l
        pure (.slice (some ⟨b, 0, none⟩) len 0, m)) else none
    | _ => none
  | .load ty a => do
    let (b, off) ← addrOf (ev t a)
    let i ← ti.get ty
    let v ← m.load b off i.size i.agg
    pure (v, m)
  | .store ty a x => do
    let (b, off) ← addrOf (ev t a)
    let i ← ti.get ty
    let vs ← cellsOf (ev t x)
    if vs.length = i.size then (do
      let m ← m.store b off vs
      pure (undefV, m)) else none
  | .nilCheck x => match ev t x with
    | .pointer (some a) => some (.pointer (some a), m)
    | .func (.func f) first cap => some (.func (.func f) first cap, m)
    | _ => none
  | .binOp op ty x y _ => do pure (← binD ti op ty (ev t x) (ev t y), m)
  | .unOp op _ x => do pure (← unD op (ev t x), m)
  | .convert src dst x => do
    let i ← ti.get dst
    let j ← ti.get src
    match j.d, i.d, ev t x with
    | .int _, .int k, .int _ n => pure (.int k (k.wrap n), m)
    | .slice el _, .string, .slice p l _ => do
      let k ← ti.get el
      match k.d with
      | .int .u8 => match p with
        | none => pure (.string .empty, m)
        | some ⟨b, off, none⟩ => match l with
          | 0 => pure (.string .empty, m)
          | l + 1 => do
            let (_, n, c) ← m.cells b
            if off + (l + 1) ≤ n then (do
              let cs ← row c (l + 1) off
              let bs ← bytesOf cs
              pure (.string ⟨⟨bs⟩⟩, m)) else none
        | _ => none
      | _ => none
    | .slice el _, .slice el' _, .slice (some ⟨b, o, none⟩) l c => do
      let k ← ti.get el
      let (tb, n, cs) ← m.cells b
      match k.d with
      | .int .u8 => if src = dst ∧ el = el' ∧ b ≠ 0 ∧ (m.h.get 0).isSome = true then pure (.slice (some ⟨b, o, none⟩) l c, { m with h := m.h.put b (.cells tb n cs) }) else none
      | _ => none
    | _, _, _ => none
  | .makeFunc (.func f) first cap => some (.func (.func f) ⟨first.toList.map (ev t)⟩ ⟨cap.toList.map (ev t)⟩, m)
  | .makeMap ty none => do
    let (b, m) ← m.new (.map ty [])
    pure (.map (some b), m)
  | .makeSlice ty l c => do
    let i ← ti.get ty
    let n ← natOf (ev t l)
    let k ← natOf (ev t c)
    if n = k ∧ n ≤ 1048576 then (match i.d with
      | .slice e sz => do
        let j ← ti.get e
        if j.size ≤ 64 then (do
          let (b, m) ← m.newRow e (rep n j.zero)
          pure (.slice (some ⟨b, 0, none⟩) n 0, m)) else none
      | _ => none) else none
  | .slice ty x lo hi mx => do
    let i ← ti.get ty
    match i.d, ev t x with
    | .slice el sz, .slice (some ⟨b, off, none⟩) len c => match mx with
      | none => do
        let l ← bndD t 0 lo
        let h ← bndD t len hi
        let (ty', _, _) ← m.cells b
        let ie ← ti.get el
        if l ≤ h ∧ h ≤ len ∧ ty' = el ∧ c = 0 ∧ ie.size = sz then pure (.slice (some ⟨b, off + l * sz, none⟩) (h - l) 0, m) else none
      | some o => match hi with
        | some oh => do
          let l ← bndD t 0 lo
          let h ← natOf (ev t oh)
          let q ← natOf (ev t o)
          if l = 0 ∧ h = 0 ∧ q = 0 then pure (.slice (some ⟨b, off, none⟩) 0 1, m) else none
        | none => none
    | .slice _ _, .slice none _ _ => match mx with
      | none => do
        let l ← bndD t 0 lo
        let h ← bndD t 0 hi
        if l = 0 ∧ h = 0 then pure (.slice none 0 0, m) else none
      | some o => match hi with
        | some oh => do
          let l ← bndD t 0 lo
          let h ← natOf (ev t oh)
          let q ← natOf (ev t o)
          if l = 0 ∧ h = 0 ∧ q = 0 then pure (.slice none 0 0, m) else none
        | none => none
    | _, _ => none
  | .fieldAddr ty x f => do
    let i ← ti.get ty
    let (b, off) ← addrOf (ev t x)
    match i.d with
    | .struct fs => do
      let (o, sz, _) ← fs[f]?
      if sz = 0 then none else pure (.pointer (some ⟨b, off + o, none⟩), m)
    | _ => none
  | .field ty x f => do
    let i ← ti.get ty
    match i.d, ev t x with
    | .struct fs, .agg cs => do
      let (o, sz, ag) ← fs[f]?
      let v ← partD ag o sz cs.toList
      pure (v, m)
    | _, _ => none
  | .indexAddr ty x ix => do
    let i ← ti.get ty
    let n ← natOf (ev t ix)
    match i.d, ev t x with
    | .slice _ sz, .slice (some ⟨b, off, none⟩) len _ => if n < len then pure (.pointer (some ⟨b, off + n * sz, none⟩), m) else none
    | .array len _ sz, .pointer (some ⟨b, off, none⟩) => if n < len then pure (.pointer (some ⟨b, off + n * sz, none⟩), m) else none
    | _, _ => none
  | .index ty x ix => do
    let i ← ti.get ty
    let n ← natOf (ev t ix)
    match i.d, ev t x with
    | .array len e sz, .agg cs => do
      if n < len then (do
        let j ← ti.get e
        let v ← partD j.agg (n * sz) sz cs.toList
        pure (v, m)) else none
    | .string, .string s => do
      let b ← s.data.toList[n]?
      pure (.int .u8 b.toNat, m)
    | _, _ => none
  | .extract x i => match ev t x with
    | .tuple vs => do
      let v ← vs.toList[i]?
      pure (v, m)
    | _ => none
  | .lookup ty mv k false => do
    let i ← ti.get ty
    match i.d, ev t mv, ev t k with
    | .map kt _, .map (some b), .int .i64 (.ofNat k) => do
      let ik ← ti.get kt
      match ik.d, m.h.get b with
      | .int .i64, some (.map _ es) => do
        let v ← findE k es
        pure (v, m)
      | _, _ => none
    | _, _, _ => none
  | .mapUpdate ty mv k x => do
    let i ← ti.get ty
    match i.d, ev t mv, ev t k with
    | .map kt _, .map (some b), .int .i64 (.ofNat k) => do
      let ik ← ti.get kt
      match ik.d, m.h.get b with
      | .int .i64, some (.map ty' es) => pure (undefV, { m with h := m.h.put b (.map ty' (setE k (ev t x) es)) })
      | _, _ => none
    | _, _, _ => none
  | .call c => match c.callee with
    | .value f => match ev t f with
      | .func (.func f) first cap => call f (first.toList ++ c.args.toList.map (ev t) ++ cap.toList) m
      | _ => none
    | .builtin b => builtinD ti b c (c.args.toList.map (ev t)) m
    | _ => none
  | _ => none
end
end Go.Ab

namespace Go.Ab

/-- where an abstract block lies: which block, from which cell on, how many cells that block has, how many an element has -/
structure Loc where
  blk : Nat
  off : Nat
  siz : Nat
  es : Nat
abbrev Rn := Nat → Option Loc

/-- not an aggregate, not a tuple -/
abbrev one (v : Value) : Bool := v.oneCell'

mutual
inductive VR (ρ : Rn) : Value → Value → Prop where
  | bool (b : Bool) : VR ρ (.bool b) (.bool b)
  | int (k : IntKind) (n : Int) : VR ρ (.int k n) (.int k n)
  | string (s : ByteArray) : VR ρ (.string s) (.string s)
  | nilp : VR ρ (.pointer none) (.pointer none)
  | ptr (b o : Nat) (L : Loc) (h : ρ b = some L) : VR ρ (.pointer (some ⟨b, o, none⟩)) (.pointer (some ⟨L.blk, L.off + o, none⟩))
  | nils : VR ρ (.slice none 0 0) (.slice none 0 0)
  | slice (b o l : Nat) (L : Loc) (c : Nat) (h : ρ b = some L) (hl : 0 < l) (hc : l ≤ c) (hs : L.off + o + c * L.es ≤ L.siz) :
      VR ρ (.slice (some ⟨b, o, none⟩) l 0) (.slice (some ⟨L.blk, L.off + o, none⟩) l c)
  | slice0 (b o : Nat) (L : Loc) (o' c : Nat) (h : ρ b = some L) (hs : o' + c * L.es ≤ L.siz) :
      VR ρ (.slice (some ⟨b, o, none⟩) 0 0) (.slice (some ⟨L.blk, o', none⟩) 0 c)
  | slice1 (b o : Nat) (L : Loc) (o' : Nat) (h : ρ b = some L) : VR ρ (.slice (some ⟨b, o, none⟩) 0 1) (.slice (some ⟨L.blk, o', none⟩) 0 0)
  | nilm : VR ρ (.map none) (.map none)
  | map (b : Nat) (L : Loc) (h : ρ b = some L) : VR ρ (.map (some b)) (.map (some L.blk))
  | func (fn : Fn) (f f' c c' : List Value) (hf : VRs ρ f f') (hc : VRs ρ c c') : VR ρ (.func fn ⟨f⟩ ⟨c⟩) (.func fn ⟨f'⟩ ⟨c'⟩)
  | nilf : VR ρ .nilFunc .nilFunc
  | nili : VR ρ .nilIface .nilIface
  | agg (l l' : List Value) (h : VRs ρ l l') (ho : ∀ v ∈ l, one v = true) : VR ρ (.agg ⟨l⟩) (.agg ⟨l'⟩)
  | tuple (l l' : List Value) (h : VRs ρ l l') : VR ρ (.tuple ⟨l⟩) (.tuple ⟨l'⟩)
inductive VRs (ρ : Rn) : List Value → List Value → Prop where
  | nil : VRs ρ [] []
  | cons (v v' : Value) (l l' : List Value) (h : VR ρ v v') (hs : VRs ρ l l') : VRs ρ (v :: l) (v' :: l')
end

def Le (ρ ρ' : Rn) : Prop := ∀ b L, ρ b = some L → ρ' b = some L
theorem Le.refl (ρ : Rn) : Le ρ ρ := fun _ _ h => h
theorem Le.trans {a b c : Rn} (h : Le a b) (h' : Le b c) : Le a c := fun x L hx => h' x L (h x L hx)

mutual
theorem VR.mono {ρ ρ' : Rn} (hl : Le ρ ρ') : ∀ {v v' : Value}, VR ρ v v' → VR ρ' v v'
  | _, _, .bool b => .bool b
  | _, _, .int k n => .int k n
  | _, _, .string s => .string s
  | _, _, .nilp => .nilp
  | _, _, .ptr b o L h => .ptr b o L (hl _ _ h)
  | _, _, .nils => .nils
  | _, _, .slice b o l L c h h1 h2 h3 => .slice b o l L c (hl _ _ h) h1 h2 h3
  | _, _, .slice0 b o L o' c h h1 => .slice0 b o L o' c (hl _ _ h) h1
  | _, _, .slice1 b o L o' h => .slice1 b o L o' (hl _ _ h)
  | _, _, .nilm => .nilm
  | _, _, .map b L h => .map b L (hl _ _ h)
  | _, _, .func fn f f' c c' h1 h2 => .func fn f f' c c' (h1.mono hl) (h2.mono hl)
  | _, _, .nilf => .nilf
  | _, _, .nili => .nili
  | _, _, .agg l l' h ho => .agg l l' (h.mono hl) ho
  | _, _, .tuple l l' h => .tuple l l' (h.mono hl)
theorem VRs.mono {ρ ρ' : Rn} (hl : Le ρ ρ') : ∀ {v v' : List Value}, VRs ρ v v' → VRs ρ' v v'
  | _, _, .nil => .nil
  | _, _, .cons v v' l l' h hs => .cons v v' l l' (h.mono hl) (hs.mono hl)
end

theorem VR.one {ρ : Rn} {v v' : Value} (h : VR ρ v v') : one v' = one v := by cases h <;> rfl

theorem VR.undef (ρ : Rn) : VR ρ undefV undef := .tuple [] [] .nil

theorem VRs.length {ρ : Rn} : ∀ {l l' : List Value}, VRs ρ l l' → l'.length = l.length
  | _, _, .nil => rfl
  | _, _, .cons _ _ _ _ _ hs => by simp [hs.length]
theorem VRs.get {ρ : Rn} : ∀ {l l' : List Value}, VRs ρ l l' → ∀ {i : Nat} {v : Value}, l[i]? = some v → ∃ v', l'[i]? = some v' ∧ VR ρ v v'
  | _, _, .nil, i, v, h => by simp at h
  | _, _, .cons a a' l l' h hs, 0, v, hv => by simp at hv; subst hv; exact ⟨a', rfl, h⟩
  | _, _, .cons a a' l l' h hs, i + 1, v, hv => by simpa using hs.get (by simpa using hv)
theorem VRs.append {ρ : Rn} : ∀ {l l' k k' : List Value}, VRs ρ l l' → VRs ρ k k' → VRs ρ (l ++ k) (l' ++ k')
  | _, _, _, _, .nil, h => h
  | _, _, _, _, .cons a a' l l' h hs, hk => .cons a a' _ _ h (hs.append hk)
theorem VRs.drop {ρ : Rn} : ∀ {l l' : List Value}, VRs ρ l l' → ∀ n, VRs ρ (l.drop n) (l'.drop n)
  | _, _, .nil, n => by simp; exact .nil
  | _, _, .cons a a' l l' h hs, 0 => .cons a a' l l' h hs
  | _, _, .cons a a' l l' h hs, n + 1 => by simpa using hs.drop n
theorem VRs.take {ρ : Rn} : ∀ {l l' : List Value}, VRs ρ l l' → ∀ n, VRs ρ (l.take n) (l'.take n)
  | _, _, .nil, n => by simp; exact .nil
  | _, _, .cons a a' l l' h hs, 0 => .nil
  | _, _, .cons a a' l l' h hs, n + 1 => by simpa using VRs.cons a a' _ _ h (hs.take n)
theorem VRs.ofGet {ρ : Rn} : ∀ {l l' : List Value}, l'.length = l.length → (∀ (i : Nat) (v : Value), l[i]? = some v → ∃ v', l'[i]? = some v' ∧ VR ρ v v') → VRs ρ l l'
  | [], [], _, _ => .nil
  | [], _ :: _, h, _ => by simp at h
  | _ :: _, [], h, _ => by simp at h
  | a :: l, a' :: l', h, hg => by
    obtain ⟨v', h1, h2⟩ := hg 0 a rfl
    simp at h1
    subst h1
    exact .cons _ _ _ _ h2 (VRs.ofGet (by simpa using h) fun i v hv => by simpa using hg (i + 1) v (by simpa using hv))

/-- values that hold no address: they are what they are -/
def closed : Value → Bool
  | .bool _ | .int _ _ | .string _ | .pointer none | .slice none 0 0 | .map none | .nilFunc | .nilIface => true
  | .func _ ⟨[]⟩ ⟨[]⟩ => true
  | .tuple ⟨[]⟩ => true
  | _ => false
theorem VR.closed (ρ : Rn) {v : Value} (h : Ab.closed v = true) : VR ρ v v := by
  unfold Ab.closed at h
  split at h <;> first | exact .bool _ | exact .int _ _ | exact .string _ | exact .nilp | exact .nils | exact .nilm | exact .nilf | exact .nili | exact .func _ _ _ _ _ .nil .nil | exact .tuple _ _ .nil | cases h
/-- closed, or an aggregate of closed cells -/
def closedA : Value → Bool
  | .agg cs => cs.toList.all fun v => closed v && one v
  | v => closed v
theorem VRs.closed (ρ : Rn) : ∀ {l : List Value}, l.all (fun v => Ab.closed v) = true → VRs ρ l l
  | [], _ => .nil
  | a :: l, h => by
    simp only [List.all_cons, Bool.and_eq_true] at h
    exact .cons _ _ _ _ (VR.closed ρ h.1) (VRs.closed ρ h.2)
theorem VR.closedA (ρ : Rn) {v : Value} (h : Ab.closedA v = true) : VR ρ v v := by
  unfold Ab.closedA at h
  split at h
  · rename_i cs
    refine .agg cs.toList cs.toList (VRs.closed ρ ?_) ?_
    · rw [List.all_eq_true] at h ⊢
      exact fun v hv => (by have := h v hv; simp at this; exact this.1)
    · rw [List.all_eq_true] at h
      exact fun v hv => (by have := h v hv; simp at this; exact this.2)
  · exact VR.closed ρ h

/-- a map's entries -/
inductive ER (ρ : Rn) : List (Nat × Value) → List MapEntry → Prop where
  | nil : ER ρ [] []
  | cons (k : Nat) (v v' : Value) (born : Nat) (l : List (Nat × Value)) (l' : List MapEntry) (h : VR ρ v v') (hs : ER ρ l l') :
      ER ρ ((k, v) :: l) ({ key := .int .i64 k, val := v', born } :: l')
theorem ER.mono {ρ ρ' : Rn} (hl : Le ρ ρ') : ∀ {l : List (Nat × Value)} {l' : List MapEntry}, ER ρ l l' → ER ρ' l l'
  | _, _, .nil => .nil
  | _, _, .cons k v v' born l l' h hs => .cons k v v' born l l' (h.mono hl) (hs.mono hl)

/-- cells of a row are as they should be -/
structure CR (ρ : Rn) (L : Loc) (n : Nat) (c : Tr Value) (cur : Array Value) (fz : Nat × Nat) : Prop where
  low : n + 1 < 2 ^ Tr.deep
  size : cur.size = L.siz
  fits : L.off + n ≤ L.siz
  ice : fz.1 = fz.2 ∨ cur.size ≤ fz.1
  cell : ∀ i v, i < n → c.get i = some v → one v = true ∧ ∃ v', cur[L.off + i]? = some v' ∧ VR ρ v v'

theorem CR.free {ρ : Rn} {L : Loc} {n : Nat} {c : Tr Value} {cur : Array Value} {fz : Nat × Nat} (h : CR ρ L n c cur fz) : ∀ i, i < cur.size → ¬ (fz.1 ≤ i ∧ i < fz.2) := fun i hi => by
  rcases h.ice with h | h <;> omega

/-- how many cells an element of a type has -/
def esOf (ti : Tr TI) (ty : Nat) : Nat := ((ti.get ty).map (·.size)).getD 0

def BR (ti : Tr TI) (ρ : Rn) (L : Loc) (w : World) : Blk → Prop
  | .cells ty n c => L.es = esOf ti ty ∧ ∃ cur e fz, w.heap[L.blk]? = some (.cells cur e fz) ∧ CR ρ L n c cur fz
  | .map _ es => ∃ l clock, w.heap[L.blk]? = some (.map l clock) ∧ ER ρ es l.toList

structure Rel (ti : Tr TI) (ρ : Rn) (m : Mem) (w : World) : Prop where
  fresh : ∀ b, m.nx ≤ b → ρ b = none
  there : ∀ b B, m.h.get b = some B → ∃ L, ρ b = some L ∧ BR ti ρ L w B
  inj : ∀ b b' L L', (m.h.get b).isSome = true → (m.h.get b').isSome = true → ρ b = some L → ρ b' = some L' → L.blk = L'.blk → b = b'
  glob : ∃ L, ρ 0 = some L ∧ L.blk = 0 ∧ L.off = 0
  low : ∀ b, (m.h.get b).isSome = true → b + 1 < 2 ^ Tr.deep

/-- a block that is live lies there -/
def Live (ρ : Rn) (m : Mem) (k : Nat) : Prop := ∃ b L, (m.h.get b).isSome = true ∧ ρ b = some L ∧ L.blk = k

structure Ext (ρ : Rn) (m : Mem) (w : World) (ρ' : Rn) (m' : Mem) (w' : World) : Prop where
  le : Le ρ ρ'
  size : w.heap.size ≤ w'.heap.size
  tape : w'.tape = w.tape
  os : w'.os = w.os
  output : w'.output = w.output
  keep : ∀ k, k < w.heap.size → ¬ Live ρ m k → w'.heap[k]? = w.heap[k]?
  live : ∀ k, Live ρ' m' k → w.heap.size ≤ k ∨ Live ρ m k
  nx : m.nx ≤ m'.nx
  old : ∀ b, b < m.nx → ρ' b = ρ b
  /-- the first row of cells is of its type, and frozen where it was -/
  typ : ∀ c e z, w.heap[0]? = some (.cells c e z) → ∃ c', w'.heap[0]? = some (.cells c' e z)

theorem Ext.refl (ρ : Rn) (m : Mem) (w : World) : Ext ρ m w ρ m w := ⟨.refl _, Nat.le_refl _, rfl, rfl, rfl, fun _ _ _ => rfl, fun _ h => .inr h, Nat.le_refl _, fun _ _ => rfl, fun c _ _ h => ⟨c, h⟩⟩
theorem Ext.trans {ρ ρ1 ρ2 : Rn} {m m1 m2 : Mem} {w w1 w2 : World} (h : Ext ρ m w ρ1 m1 w1) (h' : Ext ρ1 m1 w1 ρ2 m2 w2) : Ext ρ m w ρ2 m2 w2 where
  le := h.le.trans h'.le
  size := Nat.le_trans h.size h'.size
  tape := h'.tape.trans h.tape
  os := h'.os.trans h.os
  output := h'.output.trans h.output
  keep k hk hn := by
    rw [h'.keep k (Nat.lt_of_lt_of_le hk h.size) fun hl => ?_, h.keep k hk hn]
    rcases h.live k hl with h1 | h1
    · omega
    · exact hn h1
  nx := Nat.le_trans h.nx h'.nx
  old b hb := (h'.old b (Nat.lt_of_lt_of_le hb h.nx)).trans (h.old b hb)
  typ c e z hc := by
    obtain ⟨c1, h1⟩ := h.typ c e z hc
    exact h'.typ c1 e z h1
  live k hk := by
    rcases h'.live k hk with h1 | h1
    · exact .inl (Nat.le_trans h.size h1)
    · exact h.live k h1

/-- a draw turns nothing -/
theorem Rel.drawn {ti : Tr TI} {ρ : Rn} {m : Mem} {w : World} (h : Rel ti ρ m w) (n : Nat) : Rel ti ρ m { w with drawn := n } where
  fresh := h.fresh
  there b B hb := by
    obtain ⟨L, h1, h2⟩ := h.there b B hb
    exact ⟨L, h1, by cases B <;> exact h2⟩
  inj := h.inj
  glob := h.glob
  low := h.low
theorem Ext.drawn (ρ : Rn) (m : Mem) (w : World) (n : Nat) : Ext ρ m w ρ m { w with drawn := n } := ⟨.refl _, Nat.le_refl _, rfl, rfl, rfl, fun _ _ _ => rfl, fun _ h => .inr h, Nat.le_refl _, fun _ _ => rfl, fun c _ _ h => ⟨c, h⟩⟩

end Go.Ab

namespace Go.Ab

/-! ### the types' table -/
def rowB : TypeDesc → Bool
  | .struct _ | .array _ _ => true
  | _ => false
def szOf (P : Program) (t : TypeId) : Option Nat := (P.info? t).map (·.size)
def fieldOk (P : Program) (f : Field) (p : Nat × Nat × Bool) : Bool :=
  f.offset == p.1 && szOf P f.type == some p.2.1 && (match P.underlying f.type with | some d => rowB d == p.2.2 | none => false)
def all2 {α β : Type} (p : α → β → Bool) : List α → List β → Bool
  | [], [] => true
  | a :: l, b :: k => p a b && all2 p l k
  | _, _ => false
theorem all2_get {α β : Type} {p : α → β → Bool} : ∀ {l : List α} {k : List β}, all2 p l k = true → ∀ {i : Nat} {b : β}, k[i]? = some b → ∃ a, l[i]? = some a ∧ p a b = true
  | [], [], _, i, b, h => by simp at h
  | a :: l, b' :: k, h, 0, b, hb => by
    simp only [all2, Bool.and_eq_true] at h
    simp at hb; subst hb
    exact ⟨a, rfl, h.1⟩
  | a :: l, b' :: k, h, i + 1, b, hb => by
    simp only [all2, Bool.and_eq_true] at h
    simpa using all2_get h.2 (by simpa using hb)
  | [], _ :: _, h, _, _, _ => by simp [all2] at h
  | _ :: _, [], h, _, _, _ => by simp [all2] at h
theorem all2_length {α β : Type} {p : α → β → Bool} : ∀ {l : List α} {k : List β}, all2 p l k = true → l.length = k.length
  | [], [], _ => rfl
  | a :: l, b' :: k, h => by
    simp only [all2, Bool.and_eq_true] at h
    simp [all2_length h.2]
  | [], _ :: _, h => by simp [all2] at h
  | _ :: _, [], h => by simp [all2] at h

def dOk (P : Program) : TypeDesc → D → Bool
  | .struct fields, .struct fs => all2 (fieldOk P) fields.toList fs
  | .array n e, .array n' e' sz => n == n' && e == e' && szOf P e == some sz
  | .slice e, .slice e' sz => e == e' && szOf P e == some sz
  | .int k, .int k' => k == k'
  | .bool, .bool => true
  | .string, .string => true
  | .map k e, .map k' e' => k == k' && e == e'
  | .pointer _, .pointer => true
  | .func _ _ _, .func => true
  | _, .other => true
  | _, _ => false

/-- plain values that are the same -/
def eqP : Value → Value → Bool
  | .bool a, .bool b => a == b
  | .int j a, .int k b => j == k && a == b
  | .string a, .string b => a.data.toList == b.data.toList
  | .pointer none, .pointer none => true
  | .slice none 0 0, .slice none 0 0 => true
  | .map none, .map none => true
  | .nilFunc, .nilFunc => true
  | .nilIface, .nilIface => true
  | _, _ => false
theorem eqP_eq {a b : Value} (h : eqP a b = true) : a = b ∧ closed a = true ∧ one a = true := by
  unfold eqP at h
  split at h
  case h_3 a b =>
    cases a; cases b
    simp_all [closed, Value.oneCell']
  all_goals simp_all [closed, Value.oneCell']
theorem all2_eqP : ∀ {l k : List Value}, all2 eqP l k = true → l = k ∧ ∀ v ∈ k, closed v = true ∧ one v = true
  | [], [], _ => ⟨rfl, fun _ h => by cases h⟩
  | a :: l, b :: k, h => by
    simp only [all2, Bool.and_eq_true] at h
    obtain ⟨rfl, h1, h2⟩ := eqP_eq h.1
    obtain ⟨rfl, h3⟩ := all2_eqP h.2
    refine ⟨rfl, fun v hv => ?_⟩
    rcases List.mem_cons.1 hv with rfl | hv
    · exact ⟨h1, h2⟩
    · exact h3 v hv
  | [], _ :: _, h => by simp [all2] at h
  | _ :: _, [], h => by simp [all2] at h

/-- a field that is a number or a bool, cell number i -/
def flatField (P : Program) (f : Field) (i : Nat) (isInt : Bool) : Bool :=
  f.name != "_" && f.offset == i && (match P.underlying f.type with | some (.int _) => isInt | some .bool => !isInt | _ => false)
def flatFields (P : Program) : List Field → Nat → List Bool → Bool
  | [], _, [] => true
  | f :: r, i, b :: q => flatField P f i b && flatFields P r (i + 1) q
  | _, _, _ => false
def flatOk (P : Program) (t : TypeId) (l : List Bool) : Bool :=
  match P.underlying t with
  | some (.struct fields) => flatFields P fields.toList 0 l && !P.stoodInHeld t && !P.eqGuardType P.depth t
  | _ => false
def zkB (x : TI) : Value → Bool
  | .agg _ => x.agg
  | .tuple _ => false
  | _ => !x.agg && x.size == 1
def tiOk (P : Program) (t : TypeId) (x : TI) : Bool :=
  match P.info? t, P.underlying t with
  | some inf, some d => inf.size == x.size && rowB d == x.agg && dOk P d x.d && decide (inf.bytes ≤ 24 * x.size) && decide (x.size ≤ 4096) && x.zero.length == x.size && (x.flat.isEmpty || flatOk P t x.flat) &&
    (match inf.zero with | some z => all2 eqP z.cells.toList x.zero && zkB x z | none => false)
  | _, _ => false

structure TIok (P : Program) (t : TypeId) (x : TI) where
  inf : TypeInfo
  d : TypeDesc
  hinf : P.info? t = some inf
  hd : P.underlying t = some d
  size : inf.size = x.size
  row : rowB d = x.agg
  dok : dOk P d x.d = true
  bytes : inf.bytes ≤ 24 * x.size
  big : x.size ≤ 4096
  zlen : x.zero.length = x.size
  flat : x.flat ≠ [] → flatOk P t x.flat = true
  z : Value
  hz : inf.zero = some z
  zc : z.cells.toList = x.zero
  zero : ∀ v ∈ x.zero, closed v = true ∧ one v = true
  zk : zkB x z = true

theorem tiOk_ok {P : Program} {t : TypeId} {x : TI} (h : tiOk P t x = true) : Nonempty (TIok P t x) := by
  unfold tiOk at h
  split at h
  · rename_i inf d hi hd
    simp only [Bool.and_eq_true, beq_iff_eq, decide_eq_true_eq] at h
    obtain ⟨⟨⟨⟨⟨⟨⟨h1, h2⟩, h3⟩, h4⟩, h5⟩, h6⟩, hf⟩, h7⟩ := h
    cases hz : inf.zero with
    | none => rw [hz] at h7; cases h7
    | some z =>
      rw [hz] at h7
      simp only [Bool.and_eq_true] at h7
      obtain ⟨h8, h9⟩ := all2_eqP h7.1
      exact ⟨⟨inf, d, hi, hd, h1, h2, h3, h4, h5, h6, fun e => (by simpa [e] using hf), z, hz, h8, h9, h7.2⟩⟩
  · cases h

def Types (P : Program) (ti : Tr TI) : Prop := ∀ t x, ti.get t = some x → Nonempty (TIok P t x)

/-! ### rows of cells -/
theorem get_lay : ∀ (vs : List Value) (i : Nat) (t : Tr Value), i + vs.length < 2 ^ Tr.deep → ∀ j, (lay vs i t).get j = if i ≤ j ∧ j < i + vs.length then vs[j - i]? else t.get j
  | [], i, t, _, j => by
    rw [lay, if_neg (by rintro ⟨h1, h2⟩; simp at h2; omega)]
  | v :: r, i, t, h, j => by
    simp only [List.length_cons] at h
    rw [lay, get_lay r (i + 1) _ (by omega) j]
    by_cases h1 : i + 1 ≤ j ∧ j < i + 1 + r.length
    · rw [if_pos h1, if_pos (by simp; omega)]
      rw [show j - i = (j - (i + 1)) + 1 by omega]
      simp
    · rw [if_neg h1]
      by_cases h2 : j = i
      · subst h2
        rw [if_pos (by simp), Tr.get_put_lt _ _ _ (by omega)]
        simp
      · rw [if_neg (by simp; omega), Tr.get_put_ne _ _ h2]

theorem row_spec (c : Tr Value) : ∀ (n i : Nat) (l : List Value), row c n i = some l → l.length = n ∧ ∀ k, k < n → c.get (i + k) = l[k]?
  | 0, i, l, h => by simp [row] at h; subst h; simp
  | n + 1, i, l, h => by
    simp only [row, Option.bind_eq_bind, Option.bind_eq_some_iff, Option.pure_def, Option.some.injEq] at h
    obtain ⟨v, hv, l', hl', rfl⟩ := h
    obtain ⟨h1, h2⟩ := row_spec c n (i + 1) l' hl'
    refine ⟨by simp [h1], fun k hk => ?_⟩
    cases k with
    | zero => simpa using hv
    | succ k =>
      have := h2 k (by omega)
      rw [show i + (k + 1) = i + 1 + k by omega]
      simpa using this

/-- what a row of an abstract block reads, the block has -/
theorem CR.row {ρ : Rn} {L : Loc} {n : Nat} {c : Tr Value} {cur : Array Value} {fz : Nat × Nat} (h : CR ρ L n c cur fz) {k i : Nat} {l : List Value} (hr : Ab.row c k i = some l) (hk : i + k ≤ n) :
    ∃ l', VRs ρ l l' ∧ (∀ v ∈ l, one v = true) ∧ ∀ j v', l'[j]? = some v' → cur[L.off + i + j]? = some v' := by
  obtain ⟨h1, h2⟩ := row_spec c k i l hr
  have hc : ∀ j, j < k → ∃ v v', l[j]? = some v ∧ one v = true ∧ cur[L.off + (i + j)]? = some v' ∧ VR ρ v v' := by
    intro j hj
    have hg := h2 j hj
    have hlt : j < l.length := by omega
    rw [List.getElem?_eq_getElem hlt] at hg
    obtain ⟨ho, v', hv', hV⟩ := h.cell (i + j) _ (by omega) hg
    exact ⟨_, v', List.getElem?_eq_getElem hlt, ho, hv', hV⟩
  refine ⟨(List.range k).map fun j => (cur[L.off + (i + j)]?).getD undef, VRs.ofGet (by simp [h1]) ?_, ?_, ?_⟩
  · intro j v hj
    have hlt : j < k := by rw [← h1]; exact (List.getElem?_eq_some_iff.1 hj).1
    obtain ⟨u, v', hu, _, hv', hV⟩ := hc j hlt
    rw [hj] at hu
    cases hu
    exact ⟨v', by simp [hlt, hv'], hV⟩
  · intro v hv
    obtain ⟨j, hj⟩ := List.getElem?_of_mem hv
    obtain ⟨u, v', hu, ho, _⟩ := hc j (by rw [← h1]; exact (List.getElem?_eq_some_iff.1 hj).1)
    rw [hj] at hu
    cases hu
    exact ho
  · intro j v' hj
    by_cases hlt : j < k
    · obtain ⟨u, v'', hu, _, hv', _⟩ := hc j hlt
      rw [show L.off + i + j = L.off + (i + j) by omega]
      simp [hlt, hv'] at hj
      rw [hv', hj]
    · rw [List.getElem?_eq_none (by simp; omega)] at hj; cases hj

end Go.Ab

namespace Go.Ab

def upd (ρ : Rn) (b : Nat) (L : Loc) : Rn := fun x => if x = b then some L else ρ x
theorem upd_self (ρ : Rn) (b : Nat) (L : Loc) : upd ρ b L b = some L := by simp [upd]
theorem upd_le {ρ : Rn} {b : Nat} (L : Loc) (h : ρ b = none) : Le ρ (upd ρ b L) := fun x M hx => by
  unfold upd
  split
  · rename_i e; rw [e, h] at hx; cases hx
  · exact hx

theorem BR.mono {ti : Tr TI} {ρ ρ' : Rn} (hl : Le ρ ρ') {L : Loc} {w : World} {B : Blk} (h : BR ti ρ L w B) : BR ti ρ' L w B := by
  cases B with
  | cells ty n c =>
    obtain ⟨h0, cur, e, fz, h1, h2⟩ := h
    refine ⟨h0, cur, e, fz, h1, h2.low, h2.size, h2.fits, h2.ice, fun i v hi hv => ?_⟩
    obtain ⟨ho, v', h3, h4⟩ := h2.cell i v hi hv
    exact ⟨ho, v', h3, h4.mono hl⟩
  | map ty es =>
    obtain ⟨l, clock, h1, h2⟩ := h
    exact ⟨l, clock, h1, h2.mono hl⟩
theorem BR.same {ti : Tr TI} {ρ : Rn} {L : Loc} {w w' : World} {B : Blk} (h : BR ti ρ L w B) (hw : w'.heap[L.blk]? = w.heap[L.blk]?) : BR ti ρ L w' B := by
  cases B <;> simp only [BR, hw] at * <;> exact h
theorem BR.lt {ti : Tr TI} {ρ : Rn} {L : Loc} {w : World} {B : Blk} (h : BR ti ρ L w B) : L.blk < w.heap.size := by
  have key : ∀ o, w.heap[L.blk]? = some o → L.blk < w.heap.size := fun o ho => (Array.getElem?_eq_some_iff.1 ho).1
  cases B with
  | cells ty n c => obtain ⟨_, cur, e, fz, h1, _⟩ := h; exact key _ h1
  | map ty es => obtain ⟨l, clock, h1, _⟩ := h; exact key _ h1

theorem Rel.lt {ti : Tr TI} {ρ : Rn} {m : Mem} {w : World} (h : Rel ti ρ m w) {b : Nat} {L : Loc} (hb : (m.h.get b).isSome = true) (hL : ρ b = some L) : L.blk < w.heap.size := by
  obtain ⟨B, hB⟩ := Option.isSome_iff_exists.1 hb
  obtain ⟨L', h1, h2⟩ := h.there b B hB
  rw [hL] at h1; cases h1
  exact h2.lt
theorem Rel.lt_nx {ti : Tr TI} {ρ : Rn} {m : Mem} {w : World} (h : Rel ti ρ m w) {b : Nat} (hb : (m.h.get b).isSome = true) : b < m.nx := by
  obtain ⟨B, hB⟩ := Option.isSome_iff_exists.1 hb
  obtain ⟨L', h1, h2⟩ := h.there b B hB
  rcases Nat.lt_or_ge b m.nx with h' | h'
  · exact h'
  · rw [h.fresh b h'] at h1; cases h1
theorem Live.lt {ti : Tr TI} {ρ : Rn} {m : Mem} {w : World} (h : Rel ti ρ m w) {k : Nat} (hk : Live ρ m k) : k < w.heap.size := by
  obtain ⟨b, L, h1, h2, rfl⟩ := hk
  exact h.lt h1 h2

/-- A NEW BLOCK: whatever object was pushed, if the abstract block reads it. -/
theorem Rel.new {ti : Tr TI} {ρ : Rn} {m m' : Mem} {w w' : World} {b : Nat} {B : Blk} (h : Rel ti ρ m w) (hn : m.new B = some (b, m')) (L : Loc) (hL : w.heap.size ≤ L.blk)
    (hsz : w.heap.size ≤ w'.heap.size) (hkeep : ∀ k, k < w.heap.size → w'.heap[k]? = w.heap[k]?) (ht : w'.tape = w.tape) (hos : w'.os = w.os) (hout : w'.output = w.output)
    (hB : BR ti (upd ρ b L) L w' B) : Rel ti (upd ρ b L) m' w' ∧ Ext ρ m w (upd ρ b L) m' w' ∧ upd ρ b L b = some L := by
  unfold Mem.new at hn
  split at hn
  case isFalse => cases hn
  rename_i hlow
  cases hn
  have hfree : ρ m.nx = none := h.fresh _ (Nat.le_refl _)
  have hle := upd_le L hfree
  have hget : ∀ x, (m.h.put m.nx B).get x = if x = m.nx then some B else m.h.get x := fun x => by
    split
    · rename_i e; rw [e, Tr.get_put_lt _ _ _ hlow]
    · rename_i e; exact Tr.get_put_ne _ _ e
  have hne : ∀ x, (m.h.get x).isSome = true → x ≠ m.nx := fun x hx => Nat.ne_of_lt (h.lt_nx hx)
  refine ⟨⟨fun x hx => ?_, fun x X hx => ?_, fun x y L1 L2 hx hy h1 h2 he => ?_, ?_, fun x hx => ?_⟩, ⟨hle, hsz, ht, hos, hout, fun k hk _ => hkeep k hk, fun k hk => ?_, Nat.le_succ _, fun x hx => by simp [upd, Nat.ne_of_lt hx], fun c e z hc => ⟨c, by rw [hkeep 0 (Array.getElem?_eq_some_iff.1 hc).1]; exact hc⟩⟩, upd_self _ _ _⟩
  · have : x ≠ m.nx := by simp only at hx; omega
    simp only [upd, this, if_false]
    exact h.fresh x (by simp only at hx; omega)
  · rw [hget] at hx
    split at hx
    · rename_i e; cases hx; subst e; exact ⟨L, upd_self _ _ _, hB⟩
    · obtain ⟨M, h1, h2⟩ := h.there x X hx
      exact ⟨M, hle _ _ h1, (h2.mono hle).same (hkeep _ h2.lt)⟩
  · rw [hget] at hx hy
    by_cases ex : x = m.nx <;> by_cases ey : y = m.nx
    · rw [ex, ey]
    · simp only [ey, if_false] at hy
      rw [ex, upd_self] at h1; cases h1
      simp only [upd, ey, if_false] at h2
      have := h.lt hy h2
      omega
    · simp only [ex, if_false] at hx
      rw [ey, upd_self] at h2; cases h2
      simp only [upd, ex, if_false] at h1
      have := h.lt hx h1
      omega
    · simp only [ex, ey, if_false, upd] at hx hy h1 h2
      exact h.inj x y L1 L2 hx hy h1 h2 he
  · obtain ⟨M, h1, h2⟩ := h.glob
    exact ⟨M, hle _ _ h1, h2⟩
  · simp only at hx
    rw [hget] at hx
    by_cases ex : x = m.nx
    · rw [ex]; exact hlow
    · simp only [ex, if_false] at hx; exact h.low x hx
  · obtain ⟨x, M, hx, hM, rfl⟩ := hk
    rw [hget] at hx
    by_cases ex : x = m.nx
    · rw [ex, upd_self] at hM; cases hM; exact .inl hL
    · simp only [ex, if_false] at hx
      simp only [upd, ex, if_false] at hM
      exact .inr ⟨x, M, hx, hM, rfl⟩

theorem heap_push_old (w : World) (o : Obj) (k : Nat) (hk : k < w.heap.size) : (w.heap.push o)[k]? = w.heap[k]? := by
  rw [Array.getElem?_push]; simp [Nat.ne_of_lt hk]
theorem heap_push_new (w : World) (o : Obj) : (w.heap.push o)[w.heap.size]? = some o := by simp

theorem newRow_eq {m : Mem} {ty : Nat} {vs : List Value} {r : Nat × Mem} (h : m.newRow ty vs = some r) : vs.length + 1 < 2 ^ Tr.deep ∧ m.new (.cells ty vs.length (lay vs 0 .e)) = some r := by
  unfold Mem.newRow small at h
  simp only [Option.bind_eq_bind, Option.bind_eq_some_iff] at h
  obtain ⟨_, h1, h2⟩ := h
  split at h1
  · rename_i hlt; exact ⟨hlt, h2⟩
  · cases h1

/-- A NEW ROW OF CELLS, with some room behind it. -/
theorem Rel.newRow {ti : Tr TI} {ρ : Rn} {m m' : Mem} {w : World} {b ty : Nat} {vs vs' : List Value} (h : Rel ti ρ m w) (hn : m.newRow ty vs = some (b, m'))
    (hv : VRs ρ vs vs') (ho : ∀ v ∈ vs, one v = true) (e : TypeId) (more : List Value) (d : Nat) :
    let w' : World := { w with heap := w.heap.push (.cells (vs' ++ more).toArray e), drawn := d }
    let L : Loc := ⟨w.heap.size, 0, vs.length + more.length, esOf ti ty⟩
    ∃ ρ', ρ' b = some L ∧ Rel ti ρ' m' w' ∧ Ext ρ m w ρ' m' w' := by
  intro w' L
  obtain ⟨hlow, hn⟩ := newRow_eq hn
  have hvl := hv.length
  have hnx : b = m.nx := by
    unfold Mem.new at hn; split at hn <;> cases hn; rfl
  have hle : Le ρ (upd ρ b L) := upd_le L (by rw [hnx]; exact h.fresh _ (Nat.le_refl _))
  obtain ⟨h1, h2, h3⟩ := h.new (w' := w') hn L (Nat.le_refl _) (by simp [w']) (fun k hk => heap_push_old w _ k hk) rfl rfl rfl (by
    refine ⟨rfl, (vs' ++ more).toArray, e, (0, 0), by simp [w', L], ⟨hlow, by simp [L, hvl], by simp [L], .inl rfl, fun i v hi hg => ?_⟩⟩
    rw [get_lay vs 0 .e (by omega) i, if_pos (by omega)] at hg
    simp only [Nat.sub_zero] at hg
    obtain ⟨v', hg', hV⟩ := hv.get hg
    refine ⟨ho v (List.mem_of_getElem? hg), v', ?_, hV.mono hle⟩
    simp only [L, Nat.zero_add, List.getElem?_toArray]
    rw [List.getElem?_append_left (by rw [hvl]; exact hi)]
    exact hg')
  exact ⟨_, h3, h1, h2⟩

/-- A NEW MAP -/
theorem Rel.newMap {ti : Tr TI} {ρ : Rn} {m m' : Mem} {w : World} {b ty : Nat} (h : Rel ti ρ m w) (hn : m.new (.map ty []) = some (b, m')) :
    let w' : World := { w with heap := w.heap.push (.map #[] 0) }
    let L : Loc := ⟨w.heap.size, 0, 0, 0⟩
    ∃ ρ', ρ' b = some L ∧ Rel ti ρ' m' w' ∧ Ext ρ m w ρ' m' w' := by
  intro w' L
  obtain ⟨h1, h2, h3⟩ := h.new (w' := w') hn L (Nat.le_refl _) (by simp [w']) (fun k hk => heap_push_old w _ k hk) rfl rfl rfl
    ⟨#[], 0, by simp [w', L], .nil⟩
  exact ⟨_, h3, h1, h2⟩

/-- THE CHANGE OF ONE BLOCK that is live. -/
theorem Rel.change {ti : Tr TI} {ρ : Rn} {m : Mem} {w w' : World} {b : Nat} {B B' : Blk} {L : Loc} (h : Rel ti ρ m w) (hB : m.h.get b = some B) (hL : ρ b = some L)
    (hsz : w'.heap.size = w.heap.size) (hkeep : ∀ k, k ≠ L.blk → w'.heap[k]? = w.heap[k]?) (ht : w'.tape = w.tape) (hos : w'.os = w.os) (hout : w'.output = w.output)
    (hB' : BR ti ρ L w' B') (htyp : L.blk = 0 → ∀ c e z, w.heap[L.blk]? = some (.cells c e z) → ∃ c', w'.heap[L.blk]? = some (.cells c' e z)) : Rel ti ρ { m with h := m.h.put b B' } w' ∧ Ext ρ m w ρ { m with h := m.h.put b B' } w' := by
  have hlow := h.low b (by simp [hB])
  have hget : ∀ x, (m.h.put b B').get x = if x = b then some B' else m.h.get x := fun x => by
    split
    · rename_i e; rw [e, Tr.get_put_lt _ _ _ hlow]
    · rename_i e; exact Tr.get_put_ne _ _ e
  have hsome : ∀ x, ((m.h.put b B').get x).isSome = (m.h.get x).isSome := fun x => by
    rw [hget]; split
    · rename_i e; simp [e, hB]
    · rfl
  refine ⟨⟨h.fresh, fun x X hx => ?_, fun x y L1 L2 hx hy => ?_, h.glob, fun x hx => h.low x (by rw [← hsome]; exact hx)⟩,
    ⟨.refl _, Nat.le_of_eq hsz.symm, ht, hos, hout, fun k hk hn => hkeep k fun e => hn ⟨b, L, by simp [hB], hL, e.symm⟩, fun k hk => ?_, Nat.le_refl _, fun _ _ => rfl, fun c e z hc => by
      by_cases hkL : 0 = L.blk
      · rw [hkL] at hc ⊢; exact htyp hkL.symm c e z hc
      · exact ⟨c, by rw [hkeep 0 hkL]; exact hc⟩⟩⟩
  · simp only at hx
    rw [hget] at hx
    split at hx
    · rename_i e; cases hx; subst e; exact ⟨L, hL, hB'⟩
    · rename_i e
      obtain ⟨M, h1, h2⟩ := h.there x X hx
      refine ⟨M, h1, h2.same (hkeep _ fun he => e ?_)⟩
      exact h.inj x b M L (by simp [hx]) (by simp [hB]) h1 hL he
  · simp only [hsome] at hx hy
    exact h.inj x y L1 L2 hx hy
  · obtain ⟨x, M, hx, hM, rfl⟩ := hk
    simp only [hsome] at hx
    exact .inr ⟨x, M, hx, hM, rfl⟩

/-- A BLOCK THAT IS STRUCK. -/
theorem Rel.del {ti : Tr TI} {ρ : Rn} {m : Mem} {w : World} (h : Rel ti ρ m w) (b : Nat) : Rel ti ρ { m with h := m.h.del b } w ∧ Ext ρ m w ρ { m with h := m.h.del b } w := by
  have hget : ∀ x X, (m.h.del b).get x = some X → m.h.get x = some X := fun x X hx => by
    by_cases e : x = b
    · unfold Tr.del at hx
      subst e
      by_cases hk : x + 1 < 2 ^ Tr.deep
      · rw [Tr.get_set _ _ _ _ _ hk, if_pos rfl] at hx; cases hx
      · rwa [Tr.get_set_beyond _ _ _ _ hk] at hx
    · rwa [Tr.get_del_ne _ e] at hx
  have hsome : ∀ x, ((m.h.del b).get x).isSome = true → (m.h.get x).isSome = true := fun x hx => by
    obtain ⟨X, hX⟩ := Option.isSome_iff_exists.1 hx
    simp [hget x X hX]
  refine ⟨⟨h.fresh, fun x X hx => h.there x X (hget x X hx), fun x y L1 L2 hx hy => h.inj x y L1 L2 (hsome x hx) (hsome y hy), h.glob, fun x hx => h.low x (hsome x hx)⟩,
    ⟨.refl _, Nat.le_refl _, rfl, rfl, rfl, fun _ _ _ => rfl, fun k hk => ?_, Nat.le_refl _, fun _ _ => rfl, fun c _ _ h => ⟨c, h⟩⟩⟩
  obtain ⟨x, M, hx, hM, rfl⟩ := hk
  exact .inr ⟨x, M, hsome x hx, hM, rfl⟩
end Go.Ab

namespace Go.Ab
variable {P : Program} {ti : Tr TI}

def okOpd : Operand → Bool
  | .const v => closedA v
  | .global g => g == 0
  | _ => true

/-- operands are as they should be -/
def OR (ρ : Rn) (t : Tm) (e : Operand → Value) : Prop := ∀ x, okOpd x = true → VR ρ (ev t x) (e x)

/-- an operation comes to what the evaluator says -/
def Runs (P : Program) (ti : Tr TI) (ρ : Rn) (m : Mem) (w : World) (s : Sem Next) (v : Value) (m' : Mem) : Prop :=
  ∃ ρ' v' w', VR ρ' v v' ∧ Rel ti ρ' m' w' ∧ Ext ρ m w ρ' m' w' ∧ (s.run P w = .ok (.value v') w' ∨ (v' = undef ∧ s.run P w = .ok .skip w'))

theorem Runs.pure {ρ : Rn} {m : Mem} {w : World} {s : Sem Next} {v v' : Value} (hr : Rel ti ρ m w) (hv : VR ρ v v') (h : s.run P w = .ok (.value v') w) : Runs P ti ρ m w s v m :=
  ⟨ρ, v', w, hv, hr, .refl _ _ _, .inl h⟩

theorem addrOf_spec {ρ : Rn} {v v' : Value} {b o : Nat} (h : addrOf v = some (b, o)) (hv : VR ρ v v') :
    ∃ L, ρ b = some L ∧ v' = .pointer (some ⟨L.blk, L.off + o, none⟩) := by
  unfold addrOf at h
  split at h
  · cases h
    cases hv with
    | ptr b o L hL => exact ⟨L, hL, rfl⟩
  · cases h
theorem natOf_spec {ρ : Rn} {v v' : Value} {n : Nat} (h : natOf v = some n) (hv : VR ρ v v') : ∃ k, v' = .int k (n : Int) := by
  unfold natOf at h
  split at h
  · cases h
    cases hv
    exact ⟨_, rfl⟩
  · cases h

theorem Mem.cells_spec {m : Mem} {b ty n : Nat} {c : Tr Value} (h : m.cells b = some (ty, n, c)) : m.h.get b = some (.cells ty n c) := by
  unfold Mem.cells at h
  split at h
  · rename_i e; cases h; exact e
  · cases h

/-- a live row -/
theorem Rel.row {ρ : Rn} {m : Mem} {w : World} (hr : Rel ti ρ m w) {b ty n : Nat} {c : Tr Value} (h : m.cells b = some (ty, n, c)) {L : Loc} (hL : ρ b = some L) :
    L.es = esOf ti ty ∧ ∃ cur e fz, w.heap[L.blk]? = some (.cells cur e fz) ∧ CR ρ L n c cur fz := by
  obtain ⟨L', h1, h2⟩ := hr.there b _ (Mem.cells_spec h)
  rw [hL] at h1; cases h1
  exact h2

theorem add_none (a o n : Nat) : (⟨a, o, none⟩ : Addr).add n = ⟨a, o + n, none⟩ := by
  unfold Addr.add; split <;> simp_all

/-- A LOAD -/
theorem run_loadVar_ok (hT : Types P ti) {ρ : Rn} {m : Mem} {w : World} (hr : Rel ti ρ m w) {b off : Nat} {ty : TypeId} {i : TI} (hi : ti.get ty = some i) {v : Value}
    (h : m.load b off i.size i.agg = some v) {L : Loc} (hL : ρ b = some L) : ∃ v', VR ρ v v' ∧ (loadVar ty ⟨L.blk, L.off + off, none⟩).run P w = .ok v' w := by
  obtain ⟨T⟩ := hT ty i hi
  unfold Mem.load at h
  simp only [Option.bind_eq_bind, Option.bind_eq_some_iff] at h
  obtain ⟨⟨ty', n, c⟩, hc, h⟩ := h
  obtain ⟨_, cur, e, fz, hcur, hC⟩ := hr.row hc hL
  have hagg : (isAgg ty).run P w = .ok i.agg w := by
    unfold isAgg
    rw [Sem.run_bind, run_underlying T.hd w]
    have := T.row
    cases hd : T.d <;> rw [hd] at this <;> simp [rowB] at this <;> simp [← this]
  have hsz : (sizeOf ty).run P w = .ok i.size w := by
    simp [sizeOf, typeInfo, T.hinf, T.size]
  cases ha : i.agg with
  | true =>
    simp only [ha] at h
    split at h
    case isFalse => cases h
    rename_i hle
    simp only [Option.bind_eq_bind, Option.bind_eq_some_iff, Option.pure_def, Option.some.injEq] at h
    obtain ⟨l, hl, rfl⟩ := h
    obtain ⟨l', hV, ho, hl'⟩ := hC.row hl hle
    have hlen : l'.length = i.size := by rw [hV.length, (row_spec _ _ _ _ hl).1]
    refine ⟨.agg ⟨l'⟩, .agg _ _ hV ho, ?_⟩
    have hlc : (loadCells ⟨L.blk, L.off + off, none⟩ l'.length).run P w = .ok l'.toArray w :=
      run_loadCells_list (P := P) w _ l' fun j u hu => by
        rw [add_none, cell_of_row w _ _ cur e fz hcur]
        exact hl' j u hu
    rw [hlen] at hlc
    simp [loadVar, Sem.run_bind, hagg, ha, hsz, hlc]
  | false =>
    simp only [ha] at h
    split at h
    case isFalse => cases h
    rename_i hlt
    obtain ⟨ho, v', hv', hV⟩ := hC.cell off v hlt h
    refine ⟨v', hV, ?_⟩
    simp [loadVar, Sem.run_bind, hagg, ha, cell_of_row w _ _ cur e fz hcur, hv']

theorem cellsOf_spec {ρ : Rn} {v v' : Value} {l : List Value} (h : cellsOf v = some l) (hv : VR ρ v v') : VRs ρ l v'.cells.toList ∧ ∀ x ∈ l, one x = true := by
  cases hv <;> simp only [cellsOf, Option.some.injEq] at h
  case agg l l' hs ho => subst h; exact ⟨hs, ho⟩
  case tuple => cases h
  all_goals
    subst h
    refine ⟨.cons _ _ _ _ ?_ .nil, by simp [Value.oneCell']⟩
    constructor <;> assumption

theorem setCells_heap : ∀ (vs : List Value) (b o : Nat) (w : World) (cur : Array Value) (e : TypeId) (fz : Nat × Nat), w.heap[b]? = some (.cells cur e fz) → o + vs.length ≤ cur.size →
    ∃ cur', (w.setCells b o vs).heap[b]? = some (.cells cur' e fz) ∧ cur'.size = cur.size ∧ (∀ j, cur'[j]? = if o ≤ j ∧ j < o + vs.length then vs[j - o]? else cur[j]?) ∧
      (∀ k, k ≠ b → (w.setCells b o vs).heap[k]? = w.heap[k]?) ∧ (w.setCells b o vs).heap.size = w.heap.size ∧ (w.setCells b o vs).tape = w.tape ∧ (w.setCells b o vs).os = w.os ∧
      (w.setCells b o vs).output = w.output ∧ (w.setCells b o vs).drawn = w.drawn
  | [], b, o, w, cur, e, fz, h, _ => ⟨cur, h, rfl, fun j => by rw [if_neg (by simp)], fun _ _ => rfl, rfl, rfl, rfl, rfl, rfl⟩
  | v :: r, b, o, w, cur, e, fz, h, hl => by
    simp only [List.length_cons] at hl
    have h1 : (w.setCell ⟨b, o, none⟩ v).heap[b]? = some (.cells (cur.setIfInBounds o v) e fz) := by
      simp only [World.setCell, Array.getElem?_modify, if_true, h, Option.map_some]
      simp
    obtain ⟨cur', h2, h3, h4, h5, h6, h7, h8, h9, h10⟩ := setCells_heap r b (o + 1) _ _ e fz h1 (by simp; omega)
    refine ⟨cur', h2, by rw [h3]; simp, fun j => ?_, fun k hk => ?_, by simp only [World.setCells]; rw [h6]; simp [World.setCell], by simp only [World.setCells]; rw [h7]; rfl, by simp only [World.setCells]; rw [h8]; rfl,
      by simp only [World.setCells]; rw [h9]; rfl, by simp only [World.setCells]; rw [h10]; rfl⟩
    · rw [h4 j]
      by_cases hj : o + 1 ≤ j ∧ j < o + 1 + r.length
      · rw [if_pos hj, if_pos (by simp; omega), show j - o = (j - (o + 1)) + 1 by omega]
        simp
      · rw [if_neg hj]
        by_cases hjo : j = o
        · subst hjo
          rw [if_pos (by simp)]
          simp only [Nat.sub_self, List.getElem?_cons_zero]
          rw [Array.getElem?_setIfInBounds_self_of_lt (by omega)]
        · rw [if_neg (by simp; omega), Array.getElem?_setIfInBounds_ne (Ne.symm hjo)]
    · simp only [World.setCells]
      rw [h5 k hk]
      simp only [World.setCell, Array.getElem?_modify]
      rw [if_neg (Ne.symm hk)]

theorem frozen_of_row (w : World) (g j : Nat) (cs : Array Value) (t : TypeId) (fz : Nat × Nat) (hg : w.heap[g]? = some (.cells cs t fz)) : w.frozen? ⟨g, j, none⟩ = (decide (fz.1 ≤ j) && decide (j < fz.2)) := by
  simp [World.frozen?, hg]

/-- cells written over cells of a live row -/
theorem run_storeCells_ok {ρ : Rn} {m m' : Mem} {w : World} (hr : Rel ti ρ m w) {b off : Nat} {vs vs' : List Value} (h : m.store b off vs = some m') (hV : VRs ρ vs vs') (ho : ∀ x ∈ vs, one x = true)
    {L : Loc} (hL : ρ b = some L) : ∃ w', (storeCells ⟨L.blk, L.off + off, none⟩ vs').run P w = .ok () w' ∧ Rel ti ρ m' w' ∧ Ext ρ m w ρ m' w' := by
  unfold Mem.store at h
  simp only [Option.bind_eq_bind, Option.bind_eq_some_iff] at h
  obtain ⟨⟨ty, n, c⟩, hc, h⟩ := h
  simp only at h
  split at h
  case isFalse => cases h
  rename_i hle
  cases h
  obtain ⟨hes, cur, e, fz, hcur, hC⟩ := hr.row hc hL
  have hlen := hV.length
  have hfit : L.off + off + vs'.length ≤ cur.size := by rw [hC.size, hlen]; have := hC.fits; omega
  obtain ⟨cur', h2, h3, h4, h5, h6, h7, h8, h9, _⟩ := setCells_heap vs' L.blk (L.off + off) w cur e fz hcur hfit
  have hone : ∀ v ∈ vs', v.oneCell' = true := by
    intro v hv
    obtain ⟨j, hj⟩ := List.getElem?_of_mem hv
    have hlt : j < vs.length := by rw [← hlen]; exact (List.getElem?_eq_some_iff.1 hj).1
    obtain ⟨u, hu, hVu⟩ := hV.get (List.getElem?_eq_getElem hlt)
    rw [hj] at hu; cases hu
    exact hVu.one.trans (ho _ (List.getElem_mem hlt))
  refine ⟨w.setCells L.blk (L.off + off) vs', ?_, ?_⟩
  · have := run_storeCells_cells (P := P) L.blk (L.off + off) vs' 0 w (fun j hj => by
        rw [cell_of_row w _ _ cur e fz hcur]
        simp only [Nat.add_zero]
        rw [Array.getElem?_eq_getElem (by omega)]; rfl) (fun j hj => by
        rw [frozen_of_row w _ _ cur e fz hcur]
        have := hC.free (L.off + off + 0 + j) (by omega)
        simpa using this) hone
    simpa using this
  · refine hr.change (Mem.cells_spec hc) hL h6 h5 h7 h8 h9 ⟨hes, cur', e, fz, h2, hC.low, by rw [h3]; exact hC.size, hC.fits, by rw [h3]; exact hC.ice, fun i v hi hg => ?_⟩ (fun _ c0 e0 z0 h0 => by rw [hcur] at h0; cases h0; exact ⟨_, h2⟩)
    rw [get_lay vs off c (by have := hC.low; omega) i] at hg
    rw [h4]
    by_cases hin : off ≤ i ∧ i < off + vs.length
    · rw [if_pos hin] at hg
      obtain ⟨v', hv', hVv⟩ := hV.get hg
      refine ⟨ho v (List.mem_of_getElem? hg), v', ?_, hVv⟩
      rw [if_pos (by omega), show L.off + i - (L.off + off) = i - off by omega]
      exact hv'
    · rw [if_neg hin] at hg
      obtain ⟨h1, v', hv', hVv⟩ := hC.cell i v hi hg
      refine ⟨h1, v', ?_, hVv⟩
      rw [if_neg (by omega)]
      exact hv'
end Go.Ab

namespace Go.Ab
variable {P : Program} {ti : Tr TI}

def okOps (o : Op) : Bool := o.operands.toList.all okOpd

section
variable {ρ : Rn} {m m' : Mem} {w : World} {t : Tm} {e : Operand → Value} {O : Oper} {v : Value}

theorem op_alloc (hT : Types P ti) (hr : Rel ti ρ m w) {ty : TypeId} (hO : O.op = .alloc ty) {i : TI} (hi : ti.get ty = some i) {b : Nat} (hn : m.newRow ty i.zero = some (b, m')) :
    Runs P ti ρ m w (execOp e O) (.pointer (some ⟨b, 0, none⟩)) m' := by
  obtain ⟨T⟩ := hT ty i hi
  have hz : VRs ρ i.zero i.zero := VRs.closed ρ (by rw [List.all_eq_true]; exact fun v hv => (T.zero v hv).1)
  obtain ⟨ρ', h1, h2, h3⟩ := hr.newRow hn hz (fun v hv => (T.zero v hv).2) ty [] w.drawn
  refine ⟨ρ', _, _, .ptr b 0 _ h1, h2, h3, .inl ?_⟩
  have hc : T.z.cells = i.zero.toArray := by rw [← T.zc]
  simp [execOp, hO, Instr.alloc, zeroValue, typeInfo, T.hinf, T.hz, newVar, newRow, hc]

theorem op_box (he : OR ρ t e) (hr : Rel ti ρ m w) {ty : TypeId} {x : Operand} (hO : O.op = .box ty x) (hx : okOpd x = true) {vs : List Value} (hc : cellsOf (ev t x) = some vs) {b : Nat} (hn : m.newRow ty vs = some (b, m')) :
    Runs P ti ρ m w (execOp e O) (.pointer (some ⟨b, 0, none⟩)) m' := by
  obtain ⟨hV, ho⟩ := cellsOf_spec hc (he x hx)
  obtain ⟨ρ', h1, h2, h3⟩ := hr.newRow hn hV ho ty [] w.drawn
  refine ⟨ρ', _, _, .ptr b 0 _ h1, h2, h3, .inl ?_⟩
  simp [execOp, hO, Instr.box, newVar, newRow]

theorem op_load (hT : Types P ti) (he : OR ρ t e) (hr : Rel ti ρ m w) {ty : TypeId} {x : Operand} (hO : O.op = .load ty x) (hx : okOpd x = true) {b off : Nat} (ha : addrOf (ev t x) = some (b, off))
    {i : TI} (hi : ti.get ty = some i) (hl : m.load b off i.size i.agg = some v) : Runs P ti ρ m w (execOp e O) v m := by
  obtain ⟨L, hL, hp⟩ := addrOf_spec ha (he x hx)
  obtain ⟨v', hV, hrun⟩ := run_loadVar_ok (P := P) hT hr hi hl hL
  refine Runs.pure hr hV ?_
  simp [execOp, hO, hp, Instr.loadAt, Instr.sureAddr, hrun]

theorem op_store (hT : Types P ti) (he : OR ρ t e) (hr : Rel ti ρ m w) {ty : TypeId} {x y : Operand} (hO : O.op = .store ty x y) (hx : okOpd x = true) (hy : okOpd y = true) {b off : Nat}
    (ha : addrOf (ev t x) = some (b, off)) {i : TI} (hi : ti.get ty = some i) {vs : List Value} (hc : cellsOf (ev t y) = some vs) (hlen : vs.length = i.size) (hs : m.store b off vs = some m') :
    Runs P ti ρ m w (execOp e O) undefV m' := by
  obtain ⟨T⟩ := hT ty i hi
  obtain ⟨L, hL, hp⟩ := addrOf_spec ha (he x hx)
  obtain ⟨hV, ho⟩ := cellsOf_spec hc (he y hy)
  obtain ⟨w', hrun, h1, h2⟩ := run_storeCells_ok (P := P) hr hs hV ho hL
  refine ⟨ρ, undef, w', .undef ρ, h1, h2, .inr ⟨rfl, ?_⟩⟩
  have hsz : (e y).cells.size = T.inf.size := by rw [T.size, ← hlen, ← hV.length]; simp
  simp [execOp, hO, hp, Instr.storeAt, Instr.sureAddr, storeVar, sizeOf, typeInfo, T.hinf, hsz, hrun]

theorem op_nilCheck (he : OR ρ t e) (hr : Rel ti ρ m w) {x : Operand} (hO : O.op = .nilCheck x) (hx : okOpd x = true)
    (h : (∃ a, ev t x = .pointer (some a)) ∨ ∃ f a c, ev t x = .func (.func f) a c) : Runs P ti ρ m w (execOp e O) (ev t x) m := by
  have hv := he x hx
  refine Runs.pure hr hv ?_
  simp only [execOp, hO]
  rcases h with ⟨a, ha⟩ | ⟨f, a, c, ha⟩
  · rw [ha] at hv
    generalize e x = u at *
    cases hv
    rfl
  · rw [ha] at hv
    generalize e x = u at *
    cases hv
    rfl

theorem op_intD {op : BinOp} {k : IntKind} {a b : Int} (h : intD op k a b = some v) (hne : op ≠ .shl ∧ op ≠ .shr) (ty : TypeId) : closedA v = true ∧ (binOp op ty (.int k a) (.int k b)).run P w = .ok v w := by
  unfold intD at h
  split at h <;> first | (cases h; done) | skip
  all_goals first
    | (cases h; refine ⟨rfl, ?_⟩; simp [binOp, Op.intArith, Op.intBits, Op.intCmp]; done)
    | (split at h
       · cases h
       · rename_i hb
         cases h
         refine ⟨rfl, ?_⟩
         simp [binOp, Op.intDiv, hb])

theorem sameCells_spec : ∀ {fs : List Bool} {xs ys : List Value} {r : Bool}, sameCells fs xs ys = some r → ∀ {xs' ys' : List Value}, VRs ρ xs xs' → VRs ρ ys ys' → sameCells fs xs' ys' = some r
  | [], [], [], r, h, _, _, .nil, .nil => h
  | f :: fs, a :: xs, b :: ys, r, h, _, _, .cons _ a' _ xs' ha hxs, .cons _ b' _ ys' hb hys => by
    simp only [sameCells, Option.bind_eq_bind, Option.bind_eq_some_iff] at h ⊢
    obtain ⟨q, hq, h⟩ := h
    have : a' = a ∧ b' = b := by
      unfold sameCell at hq
      split at hq
      · cases ha; cases hb; exact ⟨rfl, rfl⟩
      · cases ha; cases hb; exact ⟨rfl, rfl⟩
      · cases hq
    rw [this.1, this.2]
    refine ⟨q, hq, ?_⟩
    cases q with
    | true => exact sameCells_spec h hxs hys
    | false => exact h
  | [], _ :: _, _, _, h, _, _, _, _ => by simp [sameCells] at h
  | [], [], _ :: _, _, h, _, _, _, _ => by simp [sameCells] at h
  | _ :: _, [], _, _, h, _, _, _, _ => by simp [sameCells] at h
  | _ :: _, _ :: _, [], _, h, _, _, _, _ => by simp [sameCells] at h

theorem eqFields_flat (d : Nat) : ∀ (fs : List Field) (l : List Bool) (i : Nat) (xs ys : List Value) (r : Bool) (w : World), flatFields P fs i l = true → sameCells l (xs.drop i) (ys.drop i) = some r →
    (Op.eqFields (d + 1) ⟨xs⟩ ⟨ys⟩ fs).run P w = .ok r w
  | [], [], i, xs, ys, r, w, _, h => by
    have : r = true := by
      generalize xs.drop i = a at h
      generalize ys.drop i = b at h
      cases a <;> cases b <;> simp [sameCells] at h <;> first | exact h | exact h.symm
    subst this
    simp [Op.eqFields]
  | [], _ :: _, _, _, _, _, _, h, _ => by simp [flatFields] at h
  | _ :: _, [], _, _, _, _, _, h, _ => by simp [flatFields] at h
  | f :: fs, bb :: l, i, xs, ys, r, w, hf, h => by
    simp only [flatFields, Bool.and_eq_true, flatField, bne_iff_ne, beq_iff_eq] at hf
    obtain ⟨⟨⟨hn, hoff⟩, hty⟩, hrest⟩ := hf
    have hxi : i < xs.length := by
      rcases Nat.lt_or_ge i xs.length with h' | h'
      · exact h'
      · rw [List.drop_eq_nil_of_le h'] at h; simp [sameCells] at h
    have hyi : i < ys.length := by
      rcases Nat.lt_or_ge i ys.length with h' | h'
      · exact h'
      · rw [List.drop_eq_nil_of_le h'] at h; rw [List.drop_eq_getElem_cons hxi] at h; simp [sameCells] at h
    rw [List.drop_eq_getElem_cons hxi, List.drop_eq_getElem_cons hyi] at h
    simp only [sameCells, Option.bind_eq_bind, Option.bind_eq_some_iff] at h
    obtain ⟨q, hq, h⟩ := h
    have hagg : (isAgg f.type).run P w = .ok false w := by
      unfold isAgg
      rw [Sem.run_bind]
      cases hd : P.underlying f.type with
      | none => rw [hd] at hty; cases hty
      | some d => rw [run_underlying hd w]; cases d <;> simp [hd] at hty <;> simp
    have hpx : (part f.type ⟨xs⟩ f.offset).run P w = .ok xs[i] w := by
      simp [part, hagg, hoff, hxi]
    have hpy : (part f.type ⟨ys⟩ f.offset).run P w = .ok ys[i] w := by
      simp [part, hagg, hoff, hyi]
    have heq : (Op.equalIn (d + 1) f.type xs[i] ys[i]).run P w = .ok q w := by
      generalize xs[i] = a at *
      generalize ys[i] = b at *
      cases hd : P.underlying f.type with
      | none => rw [hd] at hty; cases hty
      | some dd =>
        unfold sameCell at hq
        cases dd <;> simp [hd] at hty <;> subst hty
        · split at hq
          · rename_i h1; cases h1
          · cases hq; exact run_equalIn_bool' w d _ _ _ hd
          · cases hq
        · split at hq
          · split at hq
            · rename_i hk; subst hk; cases hq; exact run_equalIn_int w d _ _ _ _ _ hd
            · cases hq
          · rename_i h1; cases h1
          · cases hq
    cases q with
    | true =>
      have ih := eqFields_flat d fs l (i + 1) xs ys r w hrest h
      simp [Op.eqFields, hn, hpx, hpy, heq, ih]
    | false =>
      cases h
      simp [Op.eqFields, hn, hpx, hpy, heq]
end
end Go.Ab

namespace Go.Ab
variable {P : Program} {ti : Tr TI}
section
variable {ρ : Rn} {m m' : Mem} {w : World} {t : Tm} {e : Operand → Value} {O : Oper} {v : Value}

theorem equal_of {ty : TypeId} {x y : Value} {r : Bool} {w : World} (h : ∀ d, (Op.equalIn (d + 2) ty x y).run P w = .ok r w) : (Op.equal ty x y).run P w = .ok r w := h 9998

theorem eqi_p0 {ty el : TypeId} (h : P.underlying ty = some (.pointer el)) (b : Option Addr) (d : Nat) (w : World) : (Op.equalIn (d + 1) ty (.pointer none) (.pointer b)).run P w = .ok b.isNone w := by
  simp [Op.equalIn, run_underlying h]
theorem eqi_p1 {ty el : TypeId} (h : P.underlying ty = some (.pointer el)) (a : Addr) (d : Nat) (w : World) : (Op.equalIn (d + 1) ty (.pointer (some a)) (.pointer none)).run P w = .ok false w := by
  simp [Op.equalIn, run_underlying h]
theorem eqi_s0 {ty el : TypeId} (h : P.underlying ty = some (.slice el)) (b : Option Addr) (n c k l : Nat) (d : Nat) (w : World) : (Op.equalIn (d + 1) ty (.slice none n c) (.slice b k l)).run P w = .ok b.isNone w := by
  simp [Op.equalIn, run_underlying h]
theorem eqi_s1 {ty el : TypeId} (h : P.underlying ty = some (.slice el)) (a : Addr) (n c k l : Nat) (d : Nat) (w : World) : (Op.equalIn (d + 1) ty (.slice (some a) n c) (.slice none k l)).run P w = .ok false w := by
  simp [Op.equalIn, run_underlying h]

/-- how two of no numbers are compared -/
theorem eqlT_spec {ty : TypeId} {i : TI} (T : TIok P ty i) {x y x' y' : Value} {r : Bool} (h : eqlT i x y = some r) (hx : VR ρ x x') (hy : VR ρ y y') (a b : Operand) (w : World) :
    (eqGuard .eql ty a b x' y').run P w = .ok () w ∧ (binOp .eql ty x' y').run P w = .ok (.bool r) w ∧
    (eqGuard .neq ty a b x' y').run P w = .ok () w ∧ (binOp .neq ty x' y').run P w = .ok (.bool !r) w := by
  have hd := T.hd
  have hdok := T.dok
  unfold eqlT at h
  split at h <;> first | (cases h; done) | skip
  case h_8 fs xs ys hD =>
    split at h
    case isFalse => cases h
    rename_i hc
    obtain ⟨h1, h2, h3⟩ := hc
    have hf := T.flat h3
    unfold flatOk at hf
    rw [hd] at hf
    cases hdd : T.d <;> rw [hdd] at hf hd <;> try (cases hf; done)
    rename_i fields
    simp only [Bool.and_eq_true, Bool.not_eq_true'] at hf
    obtain ⟨⟨hf1, hf2⟩, hf3⟩ := hf
    cases hx with
    | agg l l' hl ho =>
      cases hy with
      | agg k k' hk ho' =>
        have hs := sameCells_spec h hl hk
        have hfo : P.fieldsOf ty = fields := by simp [Program.fieldsOf, hd]
        have heq : (Op.equalIn 10000 ty (.agg ⟨l'⟩) (.agg ⟨k'⟩)).run P w = .ok r w := by
          have := run_equalIn_struct (P := P) w 9999 ty ⟨l'⟩ ⟨k'⟩ (by rw [hfo]; exact hd) hf2
          rw [this, hfo]
          exact eqFields_flat 9998 fields.toList i.flat 0 l' k' r w hf1 (by simpa using hs)
        refine ⟨run_eqGuard_agg w .eql ty a b _ _ hf3, ?_, run_eqGuard_agg w .neq ty a b _ _ hf3, ?_⟩
        · rw [run_eql_struct, heq]; rfl
        · rw [run_neq_struct, heq]; rfl
  all_goals
    rename_i hD
    rw [hD] at hdok
    cases hdd : T.d <;> rw [hdd] at hdok hd <;> try (simp [dOk] at hdok; done)
    cases hx <;> cases hy <;> cases h
    all_goals
      refine ⟨by simp [eqGuard], ?_, by simp [eqGuard], ?_⟩
      all_goals
        simp only [binOp, Sem.run_bind]
        first
          | (rw [equal_of (fun d => run_equalIn_bool' w (d + 1) ty _ _ hd)]; rfl)
          | (rw [equal_of (fun d => eqi_p0 hd _ (d + 1) w)]; rfl)
          | (rw [equal_of (fun d => eqi_p1 hd _ (d + 1) w)]; rfl)
          | (rw [equal_of (fun d => eqi_s0 hd _ _ _ _ _ (d + 1) w)]; rfl)
          | (rw [equal_of (fun d => eqi_s1 hd _ _ _ _ _ (d + 1) w)]; rfl)

theorem eqlD_spec (hT : Types P ti) {ty : TypeId} {x y x' y' : Value} {r : Bool} (h : eqlD ti ty x y = some r) (hx : VR ρ x x') (hy : VR ρ y y') (a b : Operand) (w : World) :
    (eqGuard .eql ty a b x' y').run P w = .ok () w ∧ (binOp .eql ty x' y').run P w = .ok (.bool r) w ∧
    (eqGuard .neq ty a b x' y').run P w = .ok () w ∧ (binOp .neq ty x' y').run P w = .ok (.bool !r) w := by
  unfold eqlD at h
  split at h
  · split at h
    case isFalse => cases h
    rename_i hk
    subst hk
    cases h
    cases hx; cases hy
    refine ⟨by simp [eqGuard], by simp [binOp, Op.intCmp], by simp [eqGuard], by simp [binOp, Op.intCmp, bne]⟩
  · cases h
    cases hx; cases hy
    refine ⟨by simp [eqGuard], by simp [binOp, Op.stringOp], by simp [eqGuard], by simp [binOp, Op.stringOp]⟩
  · simp only [Option.bind_eq_bind, Option.bind_eq_some_iff] at h
    obtain ⟨i, hi, h⟩ := h
    obtain ⟨T⟩ := hT ty i hi
    exact eqlT_spec T h hx hy a b w

theorem op_bin (hT : Types P ti) (he : OR ρ t e) (hr : Rel ti ρ m w) {op : BinOp} {ty ty' : TypeId} {x y : Operand} (hO : O.op = .binOp op ty x y ty') (hx : okOpd x = true) (hy : okOpd y = true)
    (h : binD ti op ty (ev t x) (ev t y) = some v) : Runs P ti ρ m w (execOp e O) v m := by
  have hvx := he x hx
  have hvy := he y hy
  generalize ev t x = a at *
  generalize hax : e x = a' at *
  generalize ev t y = b at *
  generalize hby : e y = b' at *
  unfold binD at h
  split at h
  · split at h
    · split at h
      · cases h
      · rename_i hb
        cases h; cases hvx; cases hvy
        refine Runs.pure hr (VR.closed ρ rfl) ?_
        simp [execOp, hO, hax, hby, eqGuard, binOp, Op.shift, hb]
    · cases h
  · split at h
    · split at h
      · cases h
      · rename_i hb
        cases h; cases hvx; cases hvy
        refine Runs.pure hr (VR.closed ρ rfl) ?_
        simp [execOp, hO, hax, hby, eqGuard, binOp, Op.shift, hb]
    · cases h
  · simp only [Option.bind_eq_bind, Option.bind_eq_some_iff, Option.pure_def, Option.some.injEq] at h
    obtain ⟨r, hrr, rfl⟩ := h
    obtain ⟨h1, h2, _, _⟩ := eqlD_spec (P := P) hT hrr hvx hvy x y w
    refine Runs.pure hr (VR.closed ρ rfl) ?_
    simp [execOp, hO, hax, hby, h1, h2]
  · simp only [Option.bind_eq_bind, Option.bind_eq_some_iff, Option.pure_def, Option.some.injEq] at h
    obtain ⟨r, hrr, rfl⟩ := h
    obtain ⟨_, _, h1, h2⟩ := eqlD_spec (P := P) hT hrr hvx hvy x y w
    refine Runs.pure hr (VR.closed ρ rfl) ?_
    simp [execOp, hO, hax, hby, h1, h2]
  · rename_i n1 n2 n3 n4
    split at h
    · split at h
      · rename_i hk
        subst hk
        cases hvx; cases hvy
        obtain ⟨h1, h2⟩ := op_intD (P := P) (w := w) h ⟨fun hh => n1 hh, fun hh => n2 hh⟩ ty
        refine Runs.pure hr (VR.closedA ρ h1) ?_
        have hg : ∀ k1 i1 k2 i2, (eqGuard op ty x y (.int k1 i1) (.int k2 i2)).run P w = .ok () w := by
          intro k1 i1 k2 i2
          unfold eqGuard
          split <;> simp
        simp [execOp, hO, hax, hby, hg, h2]
      · cases h
    · cases h

theorem op_un (he : OR ρ t e) (hr : Rel ti ρ m w) {op : UnOp} {ty : TypeId} {x : Operand} (hO : O.op = .unOp op ty x) (hx : okOpd x = true) (h : unD op (ev t x) = some v) : Runs P ti ρ m w (execOp e O) v m := by
  have hv := he x hx
  generalize ev t x = a at *
  generalize hax : e x = a' at *
  unfold unD at h
  split at h <;> first | (cases h; done) | skip
  all_goals
    cases h
    cases hv
    refine Runs.pure hr (VR.closed ρ rfl) ?_
    simp [execOp, hO, hax, Op.unary, Op.intArith, Op.intBits]
end
end Go.Ab

namespace Go.Ab
variable {P : Program} {ti : Tr TI}
section
variable {ρ : Rn} {m m' : Mem} {w : World} {t : Tm} {e : Operand → Value} {O : Oper} {v : Value}

theorem OR.map (he : OR ρ t e) : ∀ {l : List Operand}, l.all okOpd = true → VRs ρ (l.map (ev t)) (l.map e)
  | [], _ => .nil
  | a :: l, h => by
    simp only [List.all_cons, Bool.and_eq_true] at h
    exact .cons _ _ _ _ (he a h.1) (OR.map he h.2)

theorem op_move (he : OR ρ t e) (hr : Rel ti ρ m w) {x : Operand} (hO : O.op = .move x ∨ O.op = .assign x) (hx : okOpd x = true) : Runs P ti ρ m w (execOp e O) (ev t x) m := by
  refine Runs.pure hr (he x hx) ?_
  rcases hO with hO | hO <;> simp [execOp, hO]

theorem op_pick (he : OR ρ t e) (hr : Rel ti ρ m w) {c a b : Operand} (hO : O.op = .pick c a b) (hc : okOpd c = true) (ha : okOpd a = true) (hb : okOpd b = true) {q : Bool} (h : ev t c = .bool q) :
    Runs P ti ρ m w (execOp e O) (if q then ev t a else ev t b) m := by
  have hv := he c hc
  rw [h] at hv
  generalize hcc : e c = u at *
  cases hv
  cases q
  · refine Runs.pure hr (he b hb) ?_
    simp [execOp, hO, hcc, asBool]
  · refine Runs.pure hr (he a ha) ?_
    simp [execOp, hO, hcc, asBool]

theorem op_makeFunc (he : OR ρ t e) (hr : Rel ti ρ m w) {fn : Fn} {a c : Array Operand} (hO : O.op = .makeFunc fn a c) (ha : a.toList.all okOpd = true) (hc : c.toList.all okOpd = true) :
    Runs P ti ρ m w (execOp e O) (.func fn ⟨a.toList.map (ev t)⟩ ⟨c.toList.map (ev t)⟩) m := by
  refine Runs.pure hr (.func fn _ _ _ _ (he.map ha) (he.map hc)) ?_
  simp only [execOp, hO, Instr.makeFunc, Sem.run_bind, Sem.run_pure, Result.andThen_ok]
  have : ∀ x : Array Operand, x.map e = ⟨x.toList.map e⟩ := fun x => by cases x; simp
  rw [this, this]

theorem op_makeMap (hr : Rel ti ρ m w) {ty : TypeId} (hO : O.op = .makeMap ty none) {b : Nat} (hn : m.new (.map ty []) = some (b, m')) : Runs P ti ρ m w (execOp e O) (.map (some b)) m' := by
  obtain ⟨ρ', h1, h2, h3⟩ := hr.newMap hn
  refine ⟨ρ', _, _, .map b _ h1, h2, h3, .inl ?_⟩
  simp [execOp, hO, Instr.makeMap]

theorem op_extract (he : OR ρ t e) (hr : Rel ti ρ m w) {x : Operand} {i : Nat} (hO : O.op = .extract x i) (hx : okOpd x = true) {vs : Array Value} (h : ev t x = .tuple vs) (hv : vs.toList[i]? = some v) :
    Runs P ti ρ m w (execOp e O) v m := by
  have hu := he x hx
  rw [h] at hu
  generalize hxx : e x = u at *
  cases hu with
  | tuple l l' hl =>
    obtain ⟨v', h1, h2⟩ := hl.get hv
    refine Runs.pure hr h2 ?_
    simp [execOp, hO, hxx, Instr.extract, h1]

theorem szOf_spec {el sz : Nat} (h : szOf P el = some sz) : ∃ inf, P.info? el = some inf ∧ inf.size = sz ∧ ∀ w, (sizeOf el).run P w = .ok sz w := by
  unfold szOf at h
  cases hq : P.info? el with
  | none => simp [hq] at h
  | some inf =>
    simp [hq] at h
    exact ⟨inf, rfl, h, fun w => by simp [sizeOf, typeInfo, hq, h]⟩
theorem dok_slice {ty : TypeId} {i : TI} (T : TIok P ty i) {el sz : Nat} (hd : i.d = .slice el sz) : P.underlying ty = some (.slice el) ∧ szOf P el = some sz := by
  have hdok := T.dok
  have hty := T.hd
  rw [hd] at hdok
  cases hdd : T.d <;> rw [hdd] at hdok hty <;> try (simp [dOk] at hdok; done)
  simp only [dOk, Bool.and_eq_true, beq_iff_eq] at hdok
  obtain ⟨h1, h2⟩ := hdok
  rw [h1] at hty h2
  exact ⟨hty, h2⟩
theorem dok_array {ty : TypeId} {i : TI} (T : TIok P ty i) {n el sz : Nat} (hd : i.d = .array n el sz) : P.underlying ty = some (.array n el) ∧ szOf P el = some sz := by
  have hdok := T.dok
  have hty := T.hd
  rw [hd] at hdok
  cases hdd : T.d <;> rw [hdd] at hdok hty <;> try (simp [dOk] at hdok; done)
  simp only [dOk, Bool.and_eq_true, beq_iff_eq] at hdok
  obtain ⟨⟨h0, h1⟩, h2⟩ := hdok
  rw [h0, h1] at hty
  rw [h1] at h2
  exact ⟨hty, h2⟩
theorem dok_struct {ty : TypeId} {i : TI} (T : TIok P ty i) {fs : List (Nat × Nat × Bool)} (hd : i.d = .struct fs) : ∃ fields, P.underlying ty = some (.struct fields) ∧ all2 (fieldOk P) fields.toList fs = true := by
  have hdok := T.dok
  have hty := T.hd
  rw [hd] at hdok
  cases hdd : T.d <;> rw [hdd] at hdok hty <;> try (simp [dOk] at hdok; done)
  exact ⟨_, hty, hdok⟩
theorem dok_map {ty : TypeId} {i : TI} (T : TIok P ty i) {k el : Nat} (hd : i.d = .map k el) : P.underlying ty = some (.map k el) := by
  have hdok := T.dok
  have hty := T.hd
  rw [hd] at hdok
  cases hdd : T.d <;> rw [hdd] at hdok hty <;> try (simp [dOk] at hdok; done)
  simp only [dOk, Bool.and_eq_true, beq_iff_eq] at hdok
  obtain ⟨h0, h1⟩ := hdok
  rw [h0, h1] at hty
  exact hty
theorem dok_int {ty : TypeId} {i : TI} (T : TIok P ty i) {k : IntKind} (hd : i.d = .int k) : P.underlying ty = some (.int k) := by
  have hdok := T.dok
  have hty := T.hd
  rw [hd] at hdok
  cases hdd : T.d <;> rw [hdd] at hdok hty <;> try (simp [dOk] at hdok; done)
  simp only [dOk, beq_iff_eq] at hdok
  rw [hdok] at hty
  exact hty
theorem dok_string {ty : TypeId} {i : TI} (T : TIok P ty i) (hd : i.d = .string) : P.underlying ty = some .string := by
  have hdok := T.dok
  have hty := T.hd
  rw [hd] at hdok
  cases hdd : T.d <;> rw [hdd] at hdok hty <;> try (simp [dOk] at hdok; done)
  exact hty
theorem isAgg_row {f : TypeId} {ag : Bool} (h : (match P.underlying f with | some d => rowB d == ag | none => false) = true) (w : World) : (isAgg f).run P w = .ok ag w := by
  cases hd : P.underlying f with
  | none => rw [hd] at h; cases h
  | some d =>
    rw [hd] at h
    simp only [beq_iff_eq] at h
    unfold isAgg
    rw [Sem.run_bind, run_underlying hd w]
    cases d <;> simp [rowB] at h <;> simp [← h]

theorem op_fieldAddr (hT : Types P ti) (he : OR ρ t e) (hr : Rel ti ρ m w) {ty : TypeId} {x : Operand} {f : Nat} (hO : O.op = .fieldAddr ty x f) (hx : okOpd x = true) {i : TI} (hi : ti.get ty = some i)
    {b off : Nat} (ha : addrOf (ev t x) = some (b, off)) {fs : List (Nat × Nat × Bool)} (hd : i.d = .struct fs) {o sz : Nat} {ag : Bool} (hf : fs[f]? = some (o, sz, ag)) (hne : sz ≠ 0) :
    Runs P ti ρ m w (execOp e O) (.pointer (some ⟨b, off + o, none⟩)) m := by
  obtain ⟨T⟩ := hT ty i hi
  obtain ⟨L, hL, hp⟩ := addrOf_spec ha (he x hx)
  obtain ⟨fields, hu, hall⟩ := dok_struct T hd
  obtain ⟨F, hF, hok⟩ := all2_get hall hf
  simp only [fieldOk, Bool.and_eq_true, beq_iff_eq] at hok
  obtain ⟨⟨h1, h2⟩, _⟩ := hok
  obtain ⟨inf, _, _, hsz⟩ := szOf_spec h2
  refine Runs.pure hr (.ptr b (off + o) L hL) ?_
  have hF' : fields[f]? = some F := by simpa using hF
  simp [execOp, hO, hp, Instr.fieldAt, run_underlying hu, hF', Instr.sureAddr, fieldPlace, hsz, hne, h1, add_none, Nat.add_assoc]

theorem op_indexAddr_slice (hT : Types P ti) (he : OR ρ t e) (hr : Rel ti ρ m w) {ty : TypeId} {x ix : Operand} (hO : O.op = .indexAddr ty x ix) (hx : okOpd x = true) (hix : okOpd ix = true) {i : TI} (hi : ti.get ty = some i)
    {n : Nat} (hn : natOf (ev t ix) = some n) {el sz : Nat} (hd : i.d = .slice el sz) {b off len c : Nat} (ha : ev t x = .slice (some ⟨b, off, none⟩) len c) (hlt : n < len) :
    Runs P ti ρ m w (execOp e O) (.pointer (some ⟨b, off + n * sz, none⟩)) m := by
  obtain ⟨T⟩ := hT ty i hi
  obtain ⟨k, hk⟩ := natOf_spec hn (he ix hix)
  have hu := he x hx
  rw [ha] at hu
  generalize hxx : e x = u at *
  obtain ⟨hty, hs⟩ := dok_slice T hd
  obtain ⟨_, _, _, hsz'⟩ := szOf_spec hs
  cases hu with
  | slice _ _ _ L c' hL h1 h2 h3 =>
    refine Runs.pure hr (.ptr b (off + n * sz) L hL) ?_
    simp [execOp, hO, hxx, hk, Instr.indexAt, asIntOf, run_underlying hty, hsz', Nat.not_le.2 hlt, add_none, Nat.add_assoc]
  | slice0 => omega
  | slice1 => omega

theorem op_indexAddr_array (hT : Types P ti) (he : OR ρ t e) (hr : Rel ti ρ m w) {ty : TypeId} {x ix : Operand} (hO : O.op = .indexAddr ty x ix) (hx : okOpd x = true) (hix : okOpd ix = true) {i : TI} (hi : ti.get ty = some i)
    {n : Nat} (hn : natOf (ev t ix) = some n) {len el sz : Nat} (hd : i.d = .array len el sz) {b off : Nat} (ha : ev t x = .pointer (some ⟨b, off, none⟩)) (hlt : n < len) :
    Runs P ti ρ m w (execOp e O) (.pointer (some ⟨b, off + n * sz, none⟩)) m := by
  obtain ⟨T⟩ := hT ty i hi
  obtain ⟨k, hk⟩ := natOf_spec hn (he ix hix)
  have hu := he x hx
  rw [ha] at hu
  generalize hxx : e x = u at *
  obtain ⟨hty, hs⟩ := dok_array T hd
  obtain ⟨_, _, _, hsz'⟩ := szOf_spec hs
  cases hu with
  | ptr _ _ L hL =>
    refine Runs.pure hr (.ptr b (off + n * sz) L hL) ?_
    simp [execOp, hO, hxx, hk, Instr.indexAt, asIntOf, run_underlying hty, hsz', Nat.not_le.2 hlt, add_none, Nat.add_assoc, Instr.sureAddr]

theorem run_part {f : TypeId} {ag : Bool} {o sz : Nat} {l l' : List Value} (hl : VRs ρ l l') (ho : ∀ x ∈ l, one x = true) (h : partD ag o sz l = some v) (ha : ∀ w, (isAgg f).run P w = .ok ag w) (hs : ∀ w, (sizeOf f).run P w = .ok sz w) (w : World) :
    ∃ v', VR ρ v v' ∧ (part f ⟨l'⟩ o).run P w = .ok v' w := by
  unfold partD at h
  cases ag with
  | true =>
    simp only at h
    split at h
    case isFalse => cases h
    cases h
    refine ⟨.agg ⟨(l'.drop o).take sz⟩, .agg _ _ ((hl.drop o).take sz) (fun x hx => ho x (List.mem_of_mem_drop (List.mem_of_mem_take hx))), ?_⟩
    simp [part, ha, hs]
  | false =>
    obtain ⟨v', h1, h2⟩ := hl.get h
    exact ⟨v', h2, by simp [part, ha, h1]⟩

theorem op_field (hT : Types P ti) (he : OR ρ t e) (hr : Rel ti ρ m w) {ty : TypeId} {x : Operand} {f : Nat} (hO : O.op = .field ty x f) (hx : okOpd x = true) {i : TI} (hi : ti.get ty = some i)
    {fs : List (Nat × Nat × Bool)} (hd : i.d = .struct fs) {o sz : Nat} {ag : Bool} (hf : fs[f]? = some (o, sz, ag)) {cs : Array Value} (ha : ev t x = .agg cs) (hp : partD ag o sz cs.toList = some v) :
    Runs P ti ρ m w (execOp e O) v m := by
  obtain ⟨T⟩ := hT ty i hi
  have hu := he x hx
  rw [ha] at hu
  generalize hxx : e x = u at *
  obtain ⟨fields, hty, hall⟩ := dok_struct T hd
  obtain ⟨F, hF, hok⟩ := all2_get hall hf
  simp only [fieldOk, Bool.and_eq_true, beq_iff_eq] at hok
  obtain ⟨⟨h1, h2⟩, h3⟩ := hok
  obtain ⟨_, _, _, hsz⟩ := szOf_spec h2
  have hF' : fields[f]? = some F := by simpa using hF
  cases hu with
  | agg l l' hl ho =>
    obtain ⟨v', hV, hrun⟩ := run_part (P := P) (f := F.type) hl ho hp (isAgg_row h3) hsz w
    refine Runs.pure hr hV ?_
    simp [execOp, hO, hxx, Instr.field, run_underlying hty, hF', asAgg, h1, hrun]

theorem op_index_array (hT : Types P ti) (he : OR ρ t e) (hr : Rel ti ρ m w) {ty : TypeId} {x ix : Operand} (hO : O.op = .index ty x ix) (hx : okOpd x = true) (hix : okOpd ix = true) {i : TI} (hi : ti.get ty = some i)
    {n : Nat} (hn : natOf (ev t ix) = some n) {len el sz : Nat} (hd : i.d = .array len el sz) {j : TI} (hj : ti.get el = some j) {cs : Array Value} (ha : ev t x = .agg cs) (hlt : n < len)
    (hp : partD j.agg (n * sz) sz cs.toList = some v) : Runs P ti ρ m w (execOp e O) v m := by
  obtain ⟨T⟩ := hT ty i hi
  obtain ⟨T'⟩ := hT el j hj
  obtain ⟨k, hk⟩ := natOf_spec hn (he ix hix)
  have hu := he x hx
  rw [ha] at hu
  generalize hxx : e x = u at *
  obtain ⟨hty, hs⟩ := dok_array T hd
  obtain ⟨_, _, _, hsz⟩ := szOf_spec hs
  cases hu with
  | agg l l' hl ho =>
    obtain ⟨v', hV, hrun⟩ := run_part (P := P) (f := el) hl ho hp (isAgg_row (by rw [T'.hd]; simp [T'.row])) hsz w
    refine Runs.pure hr hV ?_
    simp [execOp, hO, hxx, hk, Instr.index, asIntOf, run_underlying hty, hsz, Nat.not_le.2 hlt, hrun]

theorem op_index_string (hT : Types P ti) (he : OR ρ t e) (hr : Rel ti ρ m w) {ty : TypeId} {x ix : Operand} (hO : O.op = .index ty x ix) (hx : okOpd x = true) (hix : okOpd ix = true) {i : TI} (hi : ti.get ty = some i)
    {n : Nat} (hn : natOf (ev t ix) = some n) (hd : i.d = .string) {s : ByteArray} (ha : ev t x = .string s) {b : UInt8} (hb : s.data.toList[n]? = some b) : Runs P ti ρ m w (execOp e O) (.int .u8 b.toNat) m := by
  obtain ⟨T⟩ := hT ty i hi
  obtain ⟨k, hk⟩ := natOf_spec hn (he ix hix)
  have hu := he x hx
  rw [ha] at hu
  generalize hxx : e x = u at *
  have hty := dok_string T hd
  cases hu
  refine Runs.pure hr (.int _ _) ?_
  have hlt : n < s.size := by
    have := (List.getElem?_eq_some_iff.1 hb).1
    simpa using this
  have hb' : s[n]? = some b := by
    rw [ByteArray.getElem?_lt' s n hlt]
    rw [← hb]
    simp only [Array.getElem?_toList]
    rw [Array.getElem?_eq_getElem (by exact hlt)]
    rfl
  simp [execOp, hO, hxx, hk, Instr.index, asIntOf, run_underlying hty, hb']
end
end Go.Ab
end
