import Derived.Test.YtibcljekjjjnoaaGreatDoorAd
/- A part of the proof of FanlightNoPort: Ba. -/
set_option linter.all false
noncomputable section
/- The same evaluator in a form that the kernel is quick at: ways instead of keys, recursors instead of matches. -/
namespace Go.Ab

inductive Pth where
  | z
  | l (p : Pth)
  | r (p : Pth)

section
variable {α : Type}
noncomputable def pthR (f : Nat) : Nat → Pth :=
  Nat.rec (motive := fun _ => Nat → Pth) (fun _ => .z) (fun _ ih k => Nat.rec (motive := fun _ => Pth) .z (fun k _ => Bool.rec (.l (ih (Nat.div k 2))) (.r (ih (Nat.div k 2))) (Nat.beq (Nat.mod k 2) 1)) k) f
noncomputable def getP (p : Pth) : Tr α → Option α :=
  Pth.rec (motive := fun _ => Tr α → Option α) (fun t => Tr.rec (motive := fun _ => Option α) none (fun _ v _ _ _ => v) t)
    (fun _ ih t => Tr.rec (motive := fun _ => Option α) none (fun l _ _ _ _ => ih l) t)
    (fun _ ih t => Tr.rec (motive := fun _ => Option α) none (fun _ _ r _ _ => ih r) t) p
noncomputable def setP (x : Option α) (p : Pth) : Tr α → Tr α :=
  Pth.rec (motive := fun _ => Tr α → Tr α) (fun t => Tr.rec (motive := fun _ => Tr α) (.n .e x .e) (fun l _ r _ _ => .n l x r) t)
    (fun _ ih t => Tr.rec (motive := fun _ => Tr α) (.n (ih .e) none .e) (fun l v r _ _ => .n (ih l) v r) t)
    (fun _ ih t => Tr.rec (motive := fun _ => Tr α) (.n .e none (ih .e)) (fun l v r _ _ => .n l v (ih r)) t) p

theorem pthR_z (f : Nat) : pthR f 0 = .z := by cases f <;> rfl
theorem pthR_s (f k : Nat) : pthR (f + 1) (k + 1) = if k % 2 = 0 then .l (pthR f (k / 2)) else .r (pthR f (k / 2)) := by
  show Bool.rec (motive := fun _ => Pth) (.l (pthR f (k / 2))) (.r (pthR f (k / 2))) (Nat.beq (k % 2) 1) = _
  rw [Tr.odd]
  by_cases h : k % 2 = 0 <;> simp [h]

theorem getP_pthR : ∀ (f k : Nat) (t : Tr α), k + 1 < 2 ^ f → getP (pthR f k) t = t.get k := by
  intro f
  induction f with
  | zero => intro k t h; simp at h
  | succ f ih =>
    intro k t h
    cases k with
    | zero => rw [pthR_z]; cases t <;> rfl
    | succ k =>
      have hk : k / 2 + 1 < 2 ^ f := by rw [Nat.pow_succ] at h; omega
      rw [pthR_s]
      cases t with
      | e => by_cases h1 : k % 2 = 0 <;> simp only [h1, if_true, if_false] <;> rfl
      | n l v r =>
        rw [Tr.get_n]
        simp only [Nat.add_sub_cancel, Nat.add_one_ne_zero, if_false]
        by_cases h1 : k % 2 = 0
        · simp only [h1, if_true]; exact ih _ l hk
        · simp only [h1, if_false]; exact ih _ r hk

theorem setP_pthR (x : Option α) : ∀ (f k : Nat) (t : Tr α), k + 1 < 2 ^ f → setP x (pthR f k) t = Tr.set x f t k := by
  intro f
  induction f with
  | zero => intro k t h; simp at h
  | succ f ih =>
    intro k t h
    cases k with
    | zero => rw [pthR_z]; cases t <;> rfl
    | succ k =>
      have hk : k / 2 + 1 < 2 ^ f := by rw [Nat.pow_succ] at h; omega
      rw [pthR_s]
      cases t with
      | e =>
        rw [Tr.set_e]
        simp only [Nat.add_sub_cancel, Nat.add_one_ne_zero, if_false]
        by_cases h1 : k % 2 = 0
        · simp only [h1, if_true]; exact congrArg (fun q => Tr.n q none .e) (ih _ .e hk)
        · simp only [h1, if_false]; exact congrArg (fun q => Tr.n .e none q) (ih _ .e hk)
      | n l v r =>
        rw [Tr.set_n]
        simp only [Nat.add_sub_cancel, Nat.add_one_ne_zero, if_false]
        by_cases h1 : k % 2 = 0
        · simp only [h1, if_true]; exact congrArg (fun q => Tr.n q v r) (ih _ l hk)
        · simp only [h1, if_false]; exact congrArg (fun q => Tr.n l v q) (ih _ r hk)

noncomputable def pth (k : Nat) : Pth := pthR 24 k
noncomputable def getN (k : Nat) (t : Tr α) : Option α := Bool.rec (motive := fun _ => Option α) (t.get k) (getP (pth k) t) (Nat.ble (Nat.add k 2) 16777216)
noncomputable def setN (x : Option α) (k : Nat) (t : Tr α) : Tr α := Bool.rec (motive := fun _ => Tr α) (Tr.set x Tr.deep t k) (setP x (pth k) t) (Nat.ble (Nat.add k 2) 16777216)
theorem ble24 {k : Nat} (h : Nat.ble (Nat.add k 2) 16777216 = true) : k + 1 < 2 ^ 24 := by
  rw [Nat.ble_eq] at h
  have : Nat.add k 2 = k + 2 := rfl
  omega
theorem getP_pth {k : Nat} (h : k + 1 < 2 ^ 24) (t : Tr α) : getP (pth k) t = t.get k := getP_pthR 24 k t h
theorem setP_pth {k : Nat} (h : k + 1 < 2 ^ 24) (x : Option α) (t : Tr α) : setP x (pth k) t = Tr.set x Tr.deep t k := setP_pthR x 24 k t h
theorem getN_eq (k : Nat) (t : Tr α) : getN k t = t.get k := by
  unfold getN
  cases h : Nat.ble (Nat.add k 2) 16777216 with
  | false => rfl
  | true => exact getP_pth (ble24 h) t
theorem setN_eq (x : Option α) (k : Nat) (t : Tr α) : setN x k t = Tr.set x Tr.deep t k := by
  unfold setN
  cases h : Nat.ble (Nat.add k 2) 16777216 with
  | false => rfl
  | true => exact setP_pth (ble24 h) x t
theorem setN_put (x : α) (k : Nat) (t : Tr α) : setN (some x) k t = t.put k x := setN_eq _ _ _
end
end Go.Ab

namespace Go.Ab

abbrev An := Option (Value × Mem)
abbrev KV := Value → Mem → An
abbrev CallT := Nat → List Value → Mem → An

/-! ### what a value is -/
noncomputable def onInt (v : Value) (f : IntKind → Nat → An) (d : An) : An :=
  Value.rec (motive_1 := fun _ => (IntKind → Nat → An) → An → An) (motive_2 := fun _ => PUnit) (motive_3 := fun _ => PUnit)
    (fun _ _ d => d) (fun k n f d => Int.rec (motive := fun _ => An) (f k) (fun _ => d) n) (fun _ _ _ d => d) (fun _ _ _ _ d => d) (fun _ _ d => d) (fun _ _ d => d) (fun _ _ _ _ d => d) (fun _ _ d => d) (fun _ _ d => d)
    (fun _ _ _ _ _ _ d => d) (fun _ d => d) (fun _ _ _ _ d => d) (fun _ d => d) (fun _ _ _ d => d) (fun _ _ _ d => d) (fun _ _ => ⟨⟩) ⟨⟩ (fun _ _ _ _ => ⟨⟩) v f d
noncomputable def onBool (v : Value) (f : Bool → An) (d : An) : An :=
  Value.rec (motive_1 := fun _ => (Bool → An) → An → An) (motive_2 := fun _ => PUnit) (motive_3 := fun _ => PUnit)
    (fun b f _ => f b) (fun _ _ _ d => d) (fun _ _ _ d => d) (fun _ _ _ _ d => d) (fun _ _ d => d) (fun _ _ d => d) (fun _ _ _ _ d => d) (fun _ _ d => d) (fun _ _ d => d)
    (fun _ _ _ _ _ _ d => d) (fun _ d => d) (fun _ _ _ _ d => d) (fun _ d => d) (fun _ _ _ d => d) (fun _ _ _ d => d) (fun _ _ => ⟨⟩) ⟨⟩ (fun _ _ _ _ => ⟨⟩) v f d
noncomputable def onAddr (a : Option Addr) (f : Nat → Nat → An) (d : An) : An :=
  Option.rec (motive := fun _ => (Nat → Nat → An) → An → An) (fun _ d => d) (fun a f d => Addr.rec (motive := fun _ => An) (fun b o s => Option.rec (motive := fun _ => An) (f b o) (fun _ => d) s) a) a f d
noncomputable def onPtr (v : Value) (f : Nat → Nat → An) (d : An) : An :=
  Value.rec (motive_1 := fun _ => (Nat → Nat → An) → An → An) (motive_2 := fun _ => PUnit) (motive_3 := fun _ => PUnit)
    (fun _ _ d => d) (fun _ _ _ d => d) (fun _ _ _ d => d) (fun _ _ _ _ d => d) (fun _ _ d => d) onAddr (fun _ _ _ _ d => d) (fun _ _ d => d) (fun _ _ d => d)
    (fun _ _ _ _ _ _ d => d) (fun _ d => d) (fun _ _ _ _ d => d) (fun _ d => d) (fun _ _ _ d => d) (fun _ _ _ d => d) (fun _ _ => ⟨⟩) ⟨⟩ (fun _ _ _ _ => ⟨⟩) v f d
/-- a pointer that isn't nil -/
noncomputable def onSome (v : Value) (f : Addr → An) (d : An) : An :=
  Value.rec (motive_1 := fun _ => (Addr → An) → An → An) (motive_2 := fun _ => PUnit) (motive_3 := fun _ => PUnit)
    (fun _ _ d => d) (fun _ _ _ d => d) (fun _ _ _ d => d) (fun _ _ _ _ d => d) (fun _ _ d => d) (fun a f d => Option.rec (motive := fun _ => An) d f a) (fun _ _ _ _ d => d) (fun _ _ d => d) (fun _ _ d => d)
    (fun _ _ _ _ _ _ d => d) (fun _ d => d) (fun _ _ _ _ d => d) (fun _ d => d) (fun _ _ _ d => d) (fun _ _ _ d => d) (fun _ _ => ⟨⟩) ⟨⟩ (fun _ _ _ _ => ⟨⟩) v f d
noncomputable def onSlice (v : Value) (f : Option Addr → Nat → Nat → An) (d : An) : An :=
  Value.rec (motive_1 := fun _ => (Option Addr → Nat → Nat → An) → An → An) (motive_2 := fun _ => PUnit) (motive_3 := fun _ => PUnit)
    (fun _ _ d => d) (fun _ _ _ d => d) (fun _ _ _ d => d) (fun _ _ _ _ d => d) (fun _ _ d => d) (fun _ _ d => d) (fun a l c f _ => f a l c) (fun _ _ d => d) (fun _ _ d => d)
    (fun _ _ _ _ _ _ d => d) (fun _ d => d) (fun _ _ _ _ d => d) (fun _ d => d) (fun _ _ _ d => d) (fun _ _ _ d => d) (fun _ _ => ⟨⟩) ⟨⟩ (fun _ _ _ _ => ⟨⟩) v f d
noncomputable def onTuple (v : Value) (f : Array Value → An) (d : An) : An :=
  Value.rec (motive_1 := fun _ => (Array Value → An) → An → An) (motive_2 := fun _ => PUnit) (motive_3 := fun _ => PUnit)
    (fun _ _ d => d) (fun _ _ _ d => d) (fun _ _ _ d => d) (fun _ _ _ _ d => d) (fun _ _ d => d) (fun _ _ d => d) (fun _ _ _ _ d => d) (fun _ _ d => d) (fun _ _ d => d)
    (fun _ _ _ _ _ _ d => d) (fun _ d => d) (fun _ _ _ _ d => d) (fun _ d => d) (fun _ _ _ d => d) (fun l _ f _ => f l) (fun _ _ => ⟨⟩) ⟨⟩ (fun _ _ _ _ => ⟨⟩) v f d
/-- the cells of a value -/
noncomputable def cellsX (v : Value) (f : List Value → An) : An :=
  Value.rec (motive_1 := fun _ => (List Value → An) → An) (motive_2 := fun _ => PUnit) (motive_3 := fun _ => PUnit)
    (fun b f => f [.bool b]) (fun k n f => f [.int k n]) (fun k n f => f [.float k n]) (fun k a b f => f [.complex k a b]) (fun s f => f [.string s]) (fun a f => f [.pointer a]) (fun a l c f => f [.slice a l c]) (fun r f => f [.map r]) (fun r f => f [.chan r])
    (fun g a c _ _ f => f [.func g a c]) (fun f => f [.nilFunc]) (fun t v _ f => f [.iface t v]) (fun f => f [.nilIface]) (fun cs _ f => Array.rec (motive := fun _ => An) f cs) (fun _ _ _ => none) (fun _ _ => ⟨⟩) ⟨⟩ (fun _ _ _ _ => ⟨⟩) v f

theorem onInt_eq (v : Value) (f : IntKind → Nat → An) (d : An) : onInt v f d = match v with | .int k (.ofNat n) => f k n | _ => d := by
  cases v <;> try rfl
  rename_i k n; cases n <;> rfl
theorem onBool_eq (v : Value) (f : Bool → An) (d : An) : onBool v f d = match v with | .bool b => f b | _ => d := by cases v <;> rfl
theorem onAddr_eq (a : Option Addr) (f : Nat → Nat → An) (d : An) : onAddr a f d = match a with | some ⟨b, o, none⟩ => f b o | _ => d := by
  cases a with
  | none => rfl
  | some a => obtain ⟨b, o, s⟩ := a; cases s <;> rfl
theorem onPtr_eq (v : Value) (f : Nat → Nat → An) : onPtr v f none = (addrOf v).bind fun p => f p.1 p.2 := by
  cases v <;> try rfl
  rename_i a
  show onAddr a f none = _
  rw [onAddr_eq]
  cases a with
  | none => rfl
  | some a => obtain ⟨b, o, s⟩ := a; cases s <;> rfl
theorem onSome_eq (v : Value) (f : Addr → An) (d : An) : onSome v f d = match v with | .pointer (some a) => f a | _ => d := by
  cases v <;> try rfl
  rename_i a; cases a <;> rfl
theorem onSlice_eq (v : Value) (f : Option Addr → Nat → Nat → An) (d : An) : onSlice v f d = match v with | .slice a l c => f a l c | _ => d := by cases v <;> rfl
theorem onTuple_eq (v : Value) (f : Array Value → An) (d : An) : onTuple v f d = match v with | .tuple l => f l | _ => d := by cases v <;> rfl
theorem cellsX_eq (v : Value) (f : List Value → An) : cellsX v f = (cellsOf v).bind f := by cases v <;> rfl

/-! ### numbers -/
noncomputable def kIx (k : IntKind) : Nat := IntKind.rec (motive := fun _ => Nat) 0 1 2 3 4 5 6 7 k
noncomputable def kEq (j k : IntKind) : Bool := Nat.beq (kIx j) (kIx k)
theorem kEq_iff (j k : IntKind) : kEq j k = true ↔ j = k := by cases j <;> cases k <;> decide
noncomputable def kSgn (k : IntKind) : Bool := IntKind.rec (motive := fun _ => Bool) true true true true false false false false k
/-- numbers from 0 on that are of the kind are below it -/
noncomputable def kLim (k : IntKind) : Nat := IntKind.rec (motive := fun _ => Nat) 128 32768 2147483648 9223372036854775808 256 65536 4294967296 18446744073709551616 k
noncomputable def kBits (k : IntKind) : Nat := IntKind.rec (motive := fun _ => Nat) 8 16 32 64 8 16 32 64 k
theorem kBits_eq (k : IntKind) : kBits k = k.bits := by cases k <;> rfl
theorem kSgn_eq (k : IntKind) : kSgn k = k.signed := by cases k <;> rfl
theorem kLim_eq (k : IntKind) : kLim k = 2 ^ (if k.signed then k.bits - 1 else k.bits) := by cases k <;> rfl

theorem wrap_small {k : IntKind} {n : Nat} (h : n < kLim k) : k.wrap (n : Int) = n := by
  unfold IntKind.wrap
  cases k <;> simp only [IntKind.signed, IntKind.bits, kLim] at * <;> simp <;> omega
theorem wrap_unsigned {k : IntKind} {n : Nat} (h : kSgn k = false) : k.wrap (n : Int) = ((n % kLim k : Nat) : Int) := by
  unfold IntKind.wrap
  cases k <;> simp only [IntKind.signed, IntKind.bits, kLim, kSgn] at * <;> simp_all

/-- n, wrapped -/
noncomputable def wrapX (k : IntKind) (n : Nat) (f : Value → An) (d : An) : An :=
  Bool.rec (motive := fun _ => An) (Bool.rec (motive := fun _ => An) (f (.int k (.ofNat (Nat.mod n (kLim k))))) d (kSgn k)) (f (.int k (.ofNat n))) (Nat.ble (Nat.add n 1) (kLim k))
theorem wrapX_eq (k : IntKind) (n : Nat) (f : Value → An) (d : An) (hd : d = f (.int k (k.wrap (n : Int)))) : wrapX k n f d = f (.int k (k.wrap (n : Int))) := by
  unfold wrapX
  cases h : Nat.ble (Nat.add n 1) (kLim k) with
  | true =>
    rw [Nat.ble_eq] at h
    rw [wrap_small (show n < kLim k from h)]
    rfl
  | false =>
    cases h2 : kSgn k with
    | true => exact hd
    | false => rw [wrap_unsigned h2]; rfl
end Go.Ab

namespace Go.Ab

noncomputable def bindA {β : Type} (x : Option β) (f : β → An) : An := Option.rec (motive := fun _ => An) none f x
theorem bindA_eq {β : Type} (x : Option β) (f : β → An) : bindA x f = x.bind f := by cases x <;> rfl

abbrev BF := IntKind → Nat → Nat → (Value → An) → An → An
def BSpec (g : IntKind → Nat → Nat → Option Value) (f : BF) : Prop := ∀ k a b (K : Value → An) d, d = (g k a b).bind K → f k a b K d = (g k a b).bind K

noncomputable def addB : BF := fun k a b f d => wrapX k (Nat.add a b) f d
noncomputable def subB : BF := fun k a b f d => Bool.rec (motive := fun _ => An) d (wrapX k (Nat.sub a b) f d) (Nat.ble b a)
noncomputable def mulB : BF := fun k a b f d => wrapX k (Nat.mul a b) f d
noncomputable def quoB : BF := fun k a b f d => Bool.rec (motive := fun _ => An) (wrapX k (Nat.div a b) f d) d (Nat.beq b 0)
noncomputable def remB : BF := fun k a b f d => Bool.rec (motive := fun _ => An) (f (.int k (.ofNat (Nat.mod a b)))) d (Nat.beq b 0)
noncomputable def both (k : IntKind) (a b : Nat) (x d : An) : An := Bool.rec (motive := fun _ => An) d (Bool.rec (motive := fun _ => An) d x (Nat.ble (Nat.add b 1) (kLim k))) (Nat.ble (Nat.add a 1) (kLim k))
noncomputable def andB : BF := fun k a b f d => both k a b (f (.int k (.ofNat (Nat.land a b)))) d
noncomputable def orB : BF := fun k a b f d => both k a b (f (.int k (.ofNat (Nat.lor a b)))) d
noncomputable def xorB : BF := fun k a b f d => both k a b (f (.int k (.ofNat (Nat.xor a b)))) d
noncomputable def lssB : BF := fun _ a b f _ => f (.bool (Nat.ble (Nat.add a 1) b))
noncomputable def leqB : BF := fun _ a b f _ => f (.bool (Nat.ble a b))
noncomputable def gtrB : BF := fun _ a b f _ => f (.bool (Nat.ble (Nat.add b 1) a))
noncomputable def geqB : BF := fun _ a b f _ => f (.bool (Nat.ble b a))
noncomputable def eqlB : BF := fun _ a b f _ => f (.bool (Nat.beq a b))
noncomputable def neqB : BF := fun _ a b f _ => f (.bool (Bool.rec (motive := fun _ => Bool) true false (Nat.beq a b)))
noncomputable def shlB : BF := fun k a b f d => Bool.rec (motive := fun _ => An) d (wrapX k (Nat.mul a (Nat.pow 2 b)) f d) (Nat.ble b (kBits k))
noncomputable def shrB : BF := fun k a b f d => Bool.rec (motive := fun _ => An) d (f (.int k (.ofNat (Nat.div a (Nat.pow 2 b))))) (Nat.ble b (kBits k))

theorem boolRec {α : Type} {x y : α} {b : Bool} : Bool.rec (motive := fun _ => α) x y b = if b then y else x := by cases b <;> rfl

theorem addB_spec : BSpec (fun k a b => intD .add k a b) addB := fun k a b K d h => wrapX_eq k (Nat.add a b) K d h
theorem mulB_spec : BSpec (fun k a b => intD .mul k a b) mulB := fun k a b K d h => wrapX_eq k (Nat.mul a b) K d h
theorem subB_spec : BSpec (fun k a b => intD .sub k a b) subB := fun k a b K d h => by
  unfold subB
  rw [boolRec]
  split
  · rename_i hb
    rw [Nat.ble_eq] at hb
    have e : ((a : Int) - (b : Int)) = ((Nat.sub a b : Nat) : Int) := by
      show _ = ((a - b : Nat) : Int)
      omega
    simp only [intD, e] at h ⊢
    exact wrapX_eq k _ K d h
  · exact h
theorem quoB_spec : BSpec (fun k a b => intD .quo k a b) quoB := fun k a b K d h => by
  unfold quoB
  rw [boolRec]
  split
  · exact h
  · rename_i hb
    have hb : ¬ b = 0 := by simpa using hb
    have hb' : ¬ (b : Int) = 0 := by omega
    have e : (a : Int).tdiv b = ((Nat.div a b : Nat) : Int) := rfl
    simp only [intD, if_neg hb', e] at h ⊢
    exact wrapX_eq k _ K d h
theorem remB_spec : BSpec (fun k a b => intD .rem k a b) remB := fun k a b K d h => by
  unfold remB
  rw [boolRec]
  split
  · exact h
  · rename_i hb
    have hb : ¬ b = 0 := by simpa using hb
    have hb' : ¬ (b : Int) = 0 := by omega
    simp only [intD, if_neg hb']
    rfl
theorem both_eq {k : IntKind} {a b : Nat} {x d : An} (h : a < kLim k → b < kLim k → x = d) : both k a b x d = d := by
  unfold both
  rw [boolRec, boolRec]
  split
  · rename_i h1
    split
    · rename_i h2
      rw [Nat.ble_eq] at h1 h2
      exact h h1 h2
    · rfl
  · rfl
theorem kLim_le (k : IntKind) : kLim k ≤ 2 ^ k.bits := by cases k <;> decide
theorem kLim_two (k : IntKind) : ∃ e, kLim k = 2 ^ e := ⟨_, kLim_eq k⟩
theorem ofInt_nat (w a : Nat) (h : a < 2 ^ w) : (BitVec.ofInt w (a : Int)).toNat = a := by
  rw [BitVec.toNat_ofInt]
  have : ((a : Int) % ((2 ^ w : Nat) : Int)) = ((a % 2 ^ w : Nat) : Int) := by simp
  rw [this, Nat.mod_eq_of_lt h]
  rfl
theorem andB_spec : BSpec (fun k a b => intD .and k a b) andB := fun k a b K d h => by
  unfold andB
  rw [← h]
  refine both_eq fun h1 h2 => ?_
  rw [h]
  have hl := kLim_le k
  have e : ((BitVec.ofInt k.bits (a : Int)) &&& (BitVec.ofInt k.bits (b : Int))).toNat = Nat.land a b := by
    rw [BitVec.toNat_and, ofInt_nat _ _ (by omega), ofInt_nat _ _ (by omega)]; rfl
  obtain ⟨q, hq⟩ := kLim_two k
  have hs : Nat.land a b < kLim k := by
    rw [hq]
    exact Nat.and_lt_two_pow a (by rw [← hq]; exact h2)
  simp only [intD, e, wrap_small hs]
  rfl
theorem orB_spec : BSpec (fun k a b => intD .or k a b) orB := fun k a b K d h => by
  unfold orB
  rw [← h]
  refine both_eq fun h1 h2 => ?_
  rw [h]
  have hl := kLim_le k
  have e : ((BitVec.ofInt k.bits (a : Int)) ||| (BitVec.ofInt k.bits (b : Int))).toNat = Nat.lor a b := by
    rw [BitVec.toNat_or, ofInt_nat _ _ (by omega), ofInt_nat _ _ (by omega)]; rfl
  obtain ⟨q, hq⟩ := kLim_two k
  have hs : Nat.lor a b < kLim k := by
    rw [hq]
    exact Nat.or_lt_two_pow (by rw [← hq]; exact h1) (by rw [← hq]; exact h2)
  simp only [intD, e, wrap_small hs]
  rfl
theorem xorB_spec : BSpec (fun k a b => intD .xor k a b) xorB := fun k a b K d h => by
  unfold xorB
  rw [← h]
  refine both_eq fun h1 h2 => ?_
  rw [h]
  have hl := kLim_le k
  have e : ((BitVec.ofInt k.bits (a : Int)) ^^^ (BitVec.ofInt k.bits (b : Int))).toNat = Nat.xor a b := by
    rw [BitVec.toNat_xor, ofInt_nat _ _ (by omega), ofInt_nat _ _ (by omega)]; rfl
  obtain ⟨q, hq⟩ := kLim_two k
  have hs : Nat.xor a b < kLim k := by
    rw [hq]
    exact Nat.xor_lt_two_pow (by rw [← hq]; exact h1) (by rw [← hq]; exact h2)
  simp only [intD, e, wrap_small hs]
  rfl
theorem bool_congr {p : Prop} [Decidable p] {b : Bool} (h : b = true ↔ p) : b = decide p := by
  by_cases hp : p
  · simp [hp, h.2 hp]
  · simp only [hp, decide_false]
    cases b with
    | false => rfl
    | true => exact (hp (h.1 rfl)).elim
theorem lssB_spec : BSpec (fun k a b => intD .lss k a b) lssB := fun k a b K d _ => by
  show K (.bool (Nat.ble (Nat.add a 1) b)) = K (.bool (decide ((a : Int) < b)))
  refine congrArg (fun x => K (Value.bool x)) (bool_congr ?_)
  rw [Nat.ble_eq]
  have : Nat.add a 1 = a + 1 := rfl
  omega
theorem leqB_spec : BSpec (fun k a b => intD .leq k a b) leqB := fun k a b K d _ => by
  show K (.bool (Nat.ble a b)) = K (.bool (decide ((a : Int) ≤ b)))
  refine congrArg (fun x => K (Value.bool x)) (bool_congr ?_)
  rw [Nat.ble_eq]
  omega
theorem gtrB_spec : BSpec (fun k a b => intD .gtr k a b) gtrB := fun k a b K d _ => by
  show K (.bool (Nat.ble (Nat.add b 1) a)) = K (.bool (decide ((a : Int) > b)))
  refine congrArg (fun x => K (Value.bool x)) (bool_congr ?_)
  rw [Nat.ble_eq]
  have : Nat.add b 1 = b + 1 := rfl
  omega
theorem geqB_spec : BSpec (fun k a b => intD .geq k a b) geqB := fun k a b K d _ => by
  show K (.bool (Nat.ble b a)) = K (.bool (decide ((a : Int) ≥ b)))
  refine congrArg (fun x => K (Value.bool x)) (bool_congr ?_)
  rw [Nat.ble_eq]
  omega
theorem beq_int (a b : Nat) : Nat.beq a b = ((a : Int) == (b : Int)) := by
  rw [Bool.eq_iff_iff]
  simp
  omega
/-- shifts -/
def shlS (k : IntKind) (a b : Nat) : Option Value := some (.int k (k.wrap ((a : Int) * 2 ^ (min b k.bits))))
def shrS (k : IntKind) (a b : Nat) : Option Value := some (.int k ((a : Int).fdiv (2 ^ (min b k.bits))))
theorem shlB_spec : BSpec shlS shlB := fun k a b K d h => by
  unfold shlB
  rw [boolRec]
  split
  · rename_i hb
    rw [Nat.ble_eq, kBits_eq] at hb
    have e : ((a : Int) * 2 ^ (min b k.bits)) = ((Nat.mul a (Nat.pow 2 b) : Nat) : Int) := by
      rw [Nat.min_eq_left hb]
      show _ = ((a * 2 ^ b : Nat) : Int)
      simp
    simp only [shlS, e] at h ⊢
    exact wrapX_eq k _ K d h
  · exact h
theorem shrB_spec : BSpec shrS shrB := fun k a b K d h => by
  unfold shrB
  rw [boolRec]
  split
  · rename_i hb
    rw [Nat.ble_eq, kBits_eq] at hb
    have e : ((a : Int).fdiv (2 ^ (min b k.bits))) = ((Nat.div a (Nat.pow 2 b) : Nat) : Int) := by
      rw [Nat.min_eq_left hb]
      show _ = ((a / 2 ^ b : Nat) : Int)
      have : ((2 : Int) ^ b) = ((2 ^ b : Nat) : Int) := by simp
      rw [this]
      exact (Int.ofNat_fdiv a (2 ^ b)).symm
    simp only [shrS, e]
    rfl
  · exact h
end Go.Ab

namespace Go.Ab

/-! ### operands -/
inductive CX where
  | path (p : Pth)
  | val (v : Value)
  | slow (o : Operand)
noncomputable def evX (x : CX) (t : Tm) (K : Value → An) : An :=
  CX.rec (motive := fun _ => Tm → (Value → An) → An) (fun p t K => Option.rec (motive := fun _ => An) (K undefV) K (getP p t)) (fun v _ K => K v) (fun o t K => K (ev t o)) x t K
noncomputable def compX (o : Operand) : CX :=
  match o with
  | .tmp i => Bool.rec (motive := fun _ => CX) (.slow (.tmp i)) (.path (pth i)) (Nat.ble (Nat.add i 2) 16777216)
  | .const v => .val v
  | .global g => .val (.pointer (some ⟨g, 0, none⟩))
  | .func f => .val (.func (.func f) #[] #[])
theorem evX_eq (o : Operand) (t : Tm) (K : Value → An) : evX (compX o) t K = K (ev t o) := by
  cases o with
  | tmp i =>
    unfold compX
    simp only
    cases h : Nat.ble (Nat.add i 2) 16777216 with
    | false => rfl
    | true =>
      show Option.rec (motive := fun _ => An) (K undefV) K (getP (pth i) t) = _
      rw [getP_pth (ble24 h)]
      simp only [ev]
      cases t.get i <;> rfl
  | _ => rfl
noncomputable def evsX (l : List CX) : Tm → (List Value → An) → An :=
  List.rec (motive := fun _ => Tm → (List Value → An) → An) (fun _ K => K []) (fun x _ ih t K => evX x t fun v => ih t fun r => K (v :: r)) l
theorem evsX_eq : ∀ (l : List Operand) (t : Tm) (K : List Value → An), evsX (l.map compX) t K = K (l.map (ev t))
  | [], _, _ => rfl
  | o :: l, t, K => by
    show evX (compX o) t (fun v => evsX (l.map compX) t fun r => K (v :: r)) = _
    rw [evX_eq, evsX_eq l]
    rfl

/-! ### rows of cells -/
noncomputable def lenX {α : Type} (l : List α) : Nat := List.rec (motive := fun _ => Nat) 0 (fun _ _ ih => Nat.succ ih) l
theorem lenX_eq {α : Type} : ∀ l : List α, lenX l = l.length
  | [] => rfl
  | _ :: l => congrArg Nat.succ (lenX_eq l)
noncomputable def layX (l : List Value) : Nat → Tr Value → Tr Value :=
  List.rec (motive := fun _ => Nat → Tr Value → Tr Value) (fun _ t => t) (fun v _ ih i t => ih (Nat.add i 1) (setN (some v) i t)) l
theorem layX_eq : ∀ (l : List Value) (i : Nat) (t : Tr Value), layX l i t = lay l i t
  | [], _, _ => rfl
  | v :: l, i, t => by
    show layX l (i + 1) (setN (some v) i t) = _
    rw [layX_eq l, setN_put]
    rfl
noncomputable def rowX (n : Nat) : Tr Value → Nat → (List Value → An) → An :=
  Nat.rec (motive := fun _ => Tr Value → Nat → (List Value → An) → An) (fun _ _ K => K []) (fun _ ih c i K => bindA (getN i c) fun v => ih c (Nat.add i 1) fun l => K (v :: l)) n
theorem rowX_eq : ∀ (n : Nat) (c : Tr Value) (i : Nat) (K : List Value → An), rowX n c i K = (row c n i).bind K
  | 0, _, _, _ => rfl
  | n + 1, c, i, K => by
    show bindA (getN i c) (fun v => rowX n c (i + 1) fun l => K (v :: l)) = _
    rw [bindA_eq, getN_eq]
    simp only [row, Option.bind_eq_bind, Option.bind_assoc]
    refine congrArg _ (funext fun v => ?_)
    rw [rowX_eq n]
    simp [Option.pure_def]
noncomputable def onBlk (B : Option Blk) (f : Nat → Nat → Tr Value → An) : An :=
  Option.rec (motive := fun _ => (Nat → Nat → Tr Value → An) → An) (fun _ => none) (fun B f => Blk.rec (motive := fun _ => An) f (fun _ _ => none) B) B f
theorem onBlk_eq (m : Mem) (b : Nat) (f : Nat → Nat → Tr Value → An) : onBlk (getN b m.h) f = (m.cells b).bind fun q => f q.1 q.2.1 q.2.2 := by
  rw [getN_eq]
  unfold Mem.cells
  cases m.h.get b with
  | none => rfl
  | some B => cases B <;> rfl
noncomputable def onMem (m : Mem) (f : Tr Blk → Nat → An) : An := Mem.rec (motive := fun _ => An) f m
noncomputable def test (b : Bool) (x : An) : An := Bool.rec (motive := fun _ => An) none x b
theorem test_eq (b : Bool) (x : An) : test b x = if b then x else none := by cases b <;> rfl

noncomputable def storeX (b off : Nat) (vs : List Value) (m : Mem) (K : Mem → An) : An :=
  onMem m fun h nx => onBlk (getN b h) fun ty n c => test (Nat.ble (Nat.add off (lenX vs)) n) (K ⟨setN (some (.cells ty n (layX vs off c))) b h, nx⟩)
theorem storeX_eq (b off : Nat) (vs : List Value) (m : Mem) (K : Mem → An) : storeX b off vs m K = (m.store b off vs).bind K := by
  show onBlk (getN b m.h) _ = _
  rw [onBlk_eq]
  unfold Mem.store
  simp only [Option.bind_eq_bind, Option.bind_assoc]
  refine congrArg _ (funext fun q => ?_)
  obtain ⟨ty, n, c⟩ := q
  simp only [test_eq, lenX_eq, layX_eq, setN_put, Nat.ble_eq]
  show (if off + vs.length ≤ n then _ else _) = _
  split <;> rfl
noncomputable def loadX (b off sz : Nat) (agg : Bool) (m : Mem) (K : Value → An) : An :=
  onMem m fun h _ => onBlk (getN b h) fun _ n c =>
    Bool.rec (motive := fun _ => An) (test (Nat.ble (Nat.add off 1) n) (bindA (getN off c) K)) (test (Nat.ble (Nat.add off sz) n) (rowX sz c off fun l => K (.agg ⟨l⟩))) agg
theorem loadX_eq (b off sz : Nat) (agg : Bool) (m : Mem) (K : Value → An) : loadX b off sz agg m K = (m.load b off sz agg).bind K := by
  show onBlk (getN b m.h) _ = _
  rw [onBlk_eq]
  unfold Mem.load
  simp only [Option.bind_eq_bind, Option.bind_assoc]
  refine congrArg _ (funext fun q => ?_)
  obtain ⟨ty, n, c⟩ := q
  cases agg with
  | false =>
    simp only [test_eq, Nat.ble_eq, bindA_eq, getN_eq]
    show (if off < n then _ else _) = _
    split <;> rfl
  | true =>
    simp only [test_eq, Nat.ble_eq, rowX_eq]
    show (if off + sz ≤ n then _ else _) = _
    split
    · simp [Option.bind_assoc]
    · rfl
/-- a new row, its cells laid already -/
noncomputable def newX (ty n : Nat) (c : Tr Value) (m : Mem) (K : Nat → Mem → An) : An :=
  onMem m fun h nx => test (Nat.ble (Nat.add n 2) 16777216) (test (Nat.ble (Nat.add nx 2) 16777216) (K nx ⟨setN (some (.cells ty n c)) nx h, Nat.add nx 1⟩))
theorem newX_eq (ty : Nat) (cs : List Value) (m : Mem) (K : Nat → Mem → An) : newX ty (lenX cs) (layX cs 0 .e) m K = (m.newRow ty cs).bind fun p => K p.1 p.2 := by
  show test _ (test _ (K m.nx ⟨setN _ m.nx m.h, m.nx + 1⟩)) = _
  simp only [test_eq, lenX_eq, layX_eq, setN_put, Nat.ble_eq, Mem.newRow, small, Mem.new]
  have h1 : ∀ n, (Nat.add n 2 ≤ 16777216) = (n + 1 < 2 ^ Tr.deep) := fun n => by
    apply propext
    have : (2 : Nat) ^ Tr.deep = 16777216 := by decide
    rw [this]
    show n + 2 ≤ _ ↔ _
    omega
  simp only [h1]
  split <;> split <;> simp_all
end Go.Ab

namespace Go.Ab

inductive CO where
  | mv (x : CX)
  | pick (c a b : CX)
  | ld (sz : Nat) (agg : Bool) (x : CX)
  | st (sz : Nat) (x v : CX)
  | new (ty n : Nat) (c : Tr Value)
  | box (ty : Nat) (x : CX)
  | nilc (o : Op) (x : CX)
  | bin (op : BinOp) (ty : TypeId) (f : BF) (x y : CX)
  | sh (op : BinOp) (ty : TypeId) (f : BF) (x y : CX)
  | not (o : Op) (x : CX)
  | conv (o : Op) (k : IntKind) (x : CX)
  | fAddr (off : Nat) (x : CX)
  | iAddrS (sz : Nat) (x ix : CX)
  | iAddrA (len sz : Nat) (x ix : CX)
  | len (o : Op) (x : CX)
  | ext (x : CX) (i : Nat)
  | callF (g : Nat) (args : List CX)
  | slow (o : Op)

noncomputable def nthX (l : List Value) : Nat → (Value → An) → An :=
  List.rec (motive := fun _ => Nat → (Value → An) → An) (fun _ _ => none) (fun v _ ih i K => Nat.rec (motive := fun _ => An) (K v) (fun i _ => ih i K) i) l
theorem nthX_eq : ∀ (l : List Value) (i : Nat) (K : Value → An), nthX l i K = (l[i]?).bind K
  | [], _, _ => rfl
  | v :: l, 0, _ => rfl
  | v :: l, i + 1, K => by
    show nthX l i K = _
    rw [nthX_eq l i K]
    rfl

section
variable (ti : Tr TI)

/-- two numbers -/
noncomputable def binF (f : BF) (u v : Value) (K : Value → An) (s : An) : An :=
  onInt u (fun j a => onInt v (fun k b => Bool.rec (motive := fun _ => An) s (f j a b K s) (kEq j k)) s) s
noncomputable def shF (f : BF) (u v : Value) (K : Value → An) (s : An) : An :=
  onInt u (fun j a => onInt v (fun _ b => f j a b K s) s) s

abbrev XT := Tr TI → CallT → Tm → Mem → KV → An
noncomputable def slowM (o : Op) : XT := fun ti call t m K => bindA (opD ti call o t m) fun p => K p.1 p.2
noncomputable def mvM (x : CX) : XT := fun _ _ t m K => evX x t fun v => K v m
noncomputable def pickM (c a b : CX) : XT := fun _ _ t m K => evX c t fun v => onBool v (fun q => Bool.rec (motive := fun _ => An) (evX b t fun v => K v m) (evX a t fun v => K v m) q) none
noncomputable def ldM (sz : Nat) (agg : Bool) (x : CX) : XT := fun _ _ t m K => evX x t fun v => onPtr v (fun b off => loadX b off sz agg m fun v => K v m) none
noncomputable def stM (sz : Nat) (x v : CX) : XT := fun _ _ t m K => evX x t fun p => onPtr p (fun b off => evX v t fun u => cellsX u fun vs => test (Nat.beq (lenX vs) sz) (storeX b off vs m fun m => K undefV m)) none
noncomputable def newM (ty n : Nat) (c : Tr Value) : XT := fun _ _ _ m K => newX ty n c m fun b m => K (.pointer (some ⟨b, 0, none⟩)) m
noncomputable def boxM (ty : Nat) (x : CX) : XT := fun _ _ t m K => evX x t fun u => cellsX u fun vs => newX ty (lenX vs) (layX vs 0 .e) m fun b m => K (.pointer (some ⟨b, 0, none⟩)) m
noncomputable def nilM (o : Op) (x : CX) : XT := fun ti call t m K => evX x t fun v => onSome v (fun a => K (.pointer (some a)) m) (slowM o ti call t m K)
noncomputable def binM (op : BinOp) (ty : TypeId) (f : BF) (x y : CX) : XT := fun ti _ t m K => evX x t fun u => evX y t fun v => binF f u v (fun r => K r m) (bindA (binD ti op ty u v) fun r => K r m)
noncomputable def shM (op : BinOp) (ty : TypeId) (f : BF) (x y : CX) : XT := fun ti _ t m K => evX x t fun u => evX y t fun v => shF f u v (fun r => K r m) (bindA (binD ti op ty u v) fun r => K r m)
noncomputable def notM (o : Op) (x : CX) : XT := fun ti call t m K => evX x t fun v => onBool v (fun b => K (.bool (Bool.rec (motive := fun _ => Bool) true false b)) m) (slowM o ti call t m K)
noncomputable def convM (o : Op) (k : IntKind) (x : CX) : XT := fun ti call t m K => evX x t fun v => onInt v (fun _ n => wrapX k n (fun r => K r m) (slowM o ti call t m K)) (slowM o ti call t m K)
noncomputable def fAddrM (o : Nat) (x : CX) : XT := fun _ _ t m K => evX x t fun v => onPtr v (fun b off => K (.pointer (some ⟨b, Nat.add off o, none⟩)) m) none
noncomputable def iAddrSM (sz : Nat) (x ix : CX) : XT := fun _ _ t m K => evX ix t fun w => onInt w (fun _ n => evX x t fun v => onSlice v (fun a len _ => onAddr a (fun b off => test (Nat.ble (Nat.add n 1) len) (K (.pointer (some ⟨b, Nat.add off (Nat.mul n sz), none⟩)) m)) none) none) none
noncomputable def iAddrAM (len sz : Nat) (x ix : CX) : XT := fun _ _ t m K => evX ix t fun w => onInt w (fun _ n => evX x t fun v => onPtr v (fun b off => test (Nat.ble (Nat.add n 1) len) (K (.pointer (some ⟨b, Nat.add off (Nat.mul n sz), none⟩)) m)) none) none
noncomputable def lenM (o : Op) (x : CX) : XT := fun ti call t m K => evX x t fun v => onSlice v (fun _ n _ => K (.int .i64 (.ofNat n)) m) (slowM o ti call t m K)
noncomputable def extM (x : CX) (i : Nat) : XT := fun _ _ t m K => evX x t fun v => onTuple v (fun vs => Array.rec (motive := fun _ => An) (fun l => nthX l i fun r => K r m) vs) none
noncomputable def callFM (g : Nat) (args : List CX) : XT := fun _ call t m K => evsX args t fun l => bindA (call g l m) fun p => Prod.rec (motive := fun _ => An) K p

noncomputable def execX (o : CO) : XT :=
  CO.rec (motive := fun _ => XT) mvM pickM ldM stM newM boxM nilM binM shM notM convM fAddrM iAddrSM iAddrAM lenM extM callFM slowM o

noncomputable def binOf : BinOp → Option BF
  | .add => some addB | .sub => some subB | .mul => some mulB | .quo => some quoB | .rem => some remB | .and => some andB | .or => some orB | .xor => some xorB
  | .lss => some lssB | .leq => some leqB | .gtr => some gtrB | .geq => some geqB | .eql => some eqlB | .neq => some neqB
  | _ => none
noncomputable def shOf : BinOp → Option BF
  | .shl => some shlB | .shr => some shrB
  | _ => none

noncomputable def compO (o : Op) : CO :=
  match o with
  | .move x | .assign x => .mv (compX x)
  | .pick c a b => .pick (compX c) (compX a) (compX b)
  | .load ty x => match ti.get ty with
    | some i => .ld i.size i.agg (compX x)
    | none => .slow o
  | .store ty x v => match ti.get ty with
    | some i => .st i.size (compX x) (compX v)
    | none => .slow o
  | .alloc ty => match ti.get ty with
    | some i => .new ty (lenX i.zero) (layX i.zero 0 .e)
    | none => .slow o
  | .box ty x => .box ty (compX x)
  | .nilCheck x => .nilc o (compX x)
  | .binOp op ty x y _ => match binOf op with
    | some f => .bin op ty f (compX x) (compX y)
    | none => match shOf op with
      | some f => .sh op ty f (compX x) (compX y)
      | none => .slow o
  | .unOp .not _ x => .not o (compX x)
  | .convert src dst x => match ti.get dst, ti.get src with
    | some i, some j => match j.d, i.d with
      | .int _, .int k => .conv o k (compX x)
      | _, _ => .slow o
    | _, _ => .slow o
  | .fieldAddr ty x f => match ti.get ty with
    | some i => match i.d with
      | .struct fs => match fs[f]? with
        | some q => if q.2.1 = 0 then .slow o else .fAddr q.1 (compX x)
        | none => .slow o
      | _ => .slow o
    | none => .slow o
  | .indexAddr ty x ix => match ti.get ty with
    | some i => match i.d with
      | .slice _ sz => .iAddrS sz (compX x) (compX ix)
      | .array n _ sz => .iAddrA n sz (compX x) (compX ix)
      | _ => .slow o
    | none => .slow o
  | .extract x i => .ext (compX x) i
  | .call ⟨.value (.func g), args, _⟩ => .callF g (args.toList.map compX)
  | .call ⟨.builtin .len, args, at'⟩ => match args.toList, at'.toList with
    | [x], [ty] => match ti.get ty with
      | some i => match i.d with
        | .slice _ _ => .len o (compX x)
        | _ => .slow o
      | none => .slow o
    | _, _ => .slow o
  | _ => .slow o

/-- the operation, and then K -/
noncomputable def runK (call : CallT) (o : Op) (t : Tm) (m : Mem) (K : KV) : An := (opD ti call o t m).bind fun p => K p.1 p.2
variable {ti}
theorem slowM_eq (call : CallT) (o : Op) (t : Tm) (m : Mem) (K : KV) : slowM o ti call t m K = runK ti call o t m K := bindA_eq _ _

theorem binF_eq {g : IntKind → Nat → Nat → Option Value} {f : BF} (h : BSpec g f) (u v : Value) (K : Value → An) (R : Option Value)
    (hR : ∀ k a b, u = .int k (.ofNat a) → v = .int k (.ofNat b) → R = g k a b) : binF f u v K (R.bind K) = R.bind K := by
  unfold binF
  rw [onInt_eq]
  split
  case h_2 => rfl
  rename_i j a
  rw [onInt_eq]
  split
  case h_2 => rfl
  rename_i k b
  rw [boolRec]
  split
  case isFalse => rfl
  rename_i hk
  rw [kEq_iff] at hk
  subst hk
  rw [hR j a b rfl rfl]
  exact h j a b K _ rfl
theorem shF_eq {g : IntKind → Nat → Nat → Option Value} {f : BF} (h : BSpec g f) (u v : Value) (K : Value → An) (R : Option Value)
    (hR : ∀ j k a b, u = .int j (.ofNat a) → v = .int k (.ofNat b) → R = g j a b) : shF f u v K (R.bind K) = R.bind K := by
  unfold shF
  rw [onInt_eq]
  split
  case h_2 => rfl
  rename_i j a
  rw [onInt_eq]
  split
  case h_2 => rfl
  rename_i k b
  rw [hR j k a b rfl rfl]
  exact h j a b K _ rfl

theorem binM_eq {g : IntKind → Nat → Nat → Option Value} {f : BF} (h : BSpec g f) {op : BinOp} {ty ty' : TypeId} (hg : ∀ k a b, binD ti op ty (.int k (.ofNat a)) (.int k (.ofNat b)) = g k a b) (call : CallT) (x y : Operand) (t : Tm) (m : Mem) (K : KV) :
    binM op ty f (compX x) (compX y) ti call t m K = runK ti call (.binOp op ty x y ty') t m K := by
  unfold binM
  rw [evX_eq, evX_eq, bindA_eq, binF_eq h]
  · simp [runK, opD, Option.bind_assoc]
  · intro k a b hu hv
    rw [hu, hv]; exact hg k a b
theorem shM_eq {g : IntKind → Nat → Nat → Option Value} {f : BF} (h : BSpec g f) {op : BinOp} {ty ty' : TypeId} (hg : ∀ j k a b, binD ti op ty (.int j (.ofNat a)) (.int k (.ofNat b)) = g j a b) (call : CallT) (x y : Operand) (t : Tm) (m : Mem) (K : KV) :
    shM op ty f (compX x) (compX y) ti call t m K = runK ti call (.binOp op ty x y ty') t m K := by
  unfold shM
  rw [evX_eq, evX_eq, bindA_eq, shF_eq h]
  · simp [runK, opD, Option.bind_assoc]
  · intro j k a b hu hv
    rw [hu, hv]; exact hg j k a b
end
end Go.Ab

namespace Go.Ab
section
variable {ti : Tr TI} {call : CallT} {t : Tm} {m : Mem} {K : KV}

theorem eqlD_int (ty : TypeId) (k : IntKind) (a b : Nat) : eqlD ti ty (.int k (.ofNat a)) (.int k (.ofNat b)) = some (Nat.beq a b) := by
  simp only [eqlD, if_pos]
  rw [beq_int]
  rfl
theorem binM_all {op : BinOp} {f : BF} (hf : binOf op = some f) {ty ty' : TypeId} (x y : Operand) : binM op ty f (compX x) (compX y) ti call t m K = runK ti call (.binOp op ty x y ty') t m K := by
  have hi : ∀ k a b, (∀ r, op ≠ .shl → op ≠ .shr → op ≠ .eql → op ≠ .neq → r = intD op k (Int.ofNat a) (Int.ofNat b) → binD ti op ty (.int k (.ofNat a)) (.int k (.ofNat b)) = r) := fun k a b r h1 h2 h3 h4 hr => by
    subst hr
    cases op <;> first | (exact (h1 rfl).elim) | (exact (h2 rfl).elim) | (exact (h3 rfl).elim) | (exact (h4 rfl).elim) | simp [binD]
  cases op <;> simp only [binOf, Option.some.injEq, reduceCtorEq] at hf <;> subst hf
  case add => exact binM_eq addB_spec (fun k a b => hi k a b _ (by simp) (by simp) (by simp) (by simp) rfl) call x y t m K
  case sub => exact binM_eq subB_spec (fun k a b => hi k a b _ (by simp) (by simp) (by simp) (by simp) rfl) call x y t m K
  case mul => exact binM_eq mulB_spec (fun k a b => hi k a b _ (by simp) (by simp) (by simp) (by simp) rfl) call x y t m K
  case quo => exact binM_eq quoB_spec (fun k a b => hi k a b _ (by simp) (by simp) (by simp) (by simp) rfl) call x y t m K
  case rem => exact binM_eq remB_spec (fun k a b => hi k a b _ (by simp) (by simp) (by simp) (by simp) rfl) call x y t m K
  case and => exact binM_eq andB_spec (fun k a b => hi k a b _ (by simp) (by simp) (by simp) (by simp) rfl) call x y t m K
  case or => exact binM_eq orB_spec (fun k a b => hi k a b _ (by simp) (by simp) (by simp) (by simp) rfl) call x y t m K
  case xor => exact binM_eq xorB_spec (fun k a b => hi k a b _ (by simp) (by simp) (by simp) (by simp) rfl) call x y t m K
  case lss => exact binM_eq lssB_spec (fun k a b => hi k a b _ (by simp) (by simp) (by simp) (by simp) rfl) call x y t m K
  case leq => exact binM_eq leqB_spec (fun k a b => hi k a b _ (by simp) (by simp) (by simp) (by simp) rfl) call x y t m K
  case gtr => exact binM_eq gtrB_spec (fun k a b => hi k a b _ (by simp) (by simp) (by simp) (by simp) rfl) call x y t m K
  case geq => exact binM_eq geqB_spec (fun k a b => hi k a b _ (by simp) (by simp) (by simp) (by simp) rfl) call x y t m K
  case eql =>
    refine binM_eq (g := fun _ a b => some (.bool (Nat.beq a b))) (fun k a b K d _ => rfl) (fun k a b => ?_) call x y t m K
    show ((eqlD ti ty (.int k (.ofNat a)) (.int k (.ofNat b))).bind fun r => some (Value.bool r)) = _
    rw [eqlD_int]
    rfl
  case neq =>
    refine binM_eq (g := fun _ a b => some (.bool (!(Nat.beq a b)))) (fun k a b K d _ => ?_) (fun k a b => ?_) call x y t m K
    · show K (.bool _) = K (.bool _)
      cases Nat.beq a b <;> rfl
    · show ((eqlD ti ty (.int k (.ofNat a)) (.int k (.ofNat b))).bind fun r => some (Value.bool (!r))) = _
      rw [eqlD_int]
      rfl
theorem shM_all {op : BinOp} {f : BF} (hf : shOf op = some f) {ty ty' : TypeId} (x y : Operand) : shM op ty f (compX x) (compX y) ti call t m K = runK ti call (.binOp op ty x y ty') t m K := by
  cases op <;> simp only [shOf, Option.some.injEq, reduceCtorEq] at hf <;> subst hf
  case shl =>
    refine shM_eq shlB_spec (fun j k a b => ?_) call x y t m K
    simp only [binD, shlS]
    rw [if_neg (by simp)]
    rfl
  case shr =>
    refine shM_eq shrB_spec (fun j k a b => ?_) call x y t m K
    simp only [binD, shrS]
    rw [if_neg (by simp)]
    rfl

theorem mvM_eq (x : Operand) : mvM (compX x) ti call t m K = K (ev t x) m := by unfold mvM; rw [evX_eq]
theorem pickM_eq (c a b : Operand) : pickM (compX c) (compX a) (compX b) ti call t m K = runK ti call (.pick c a b) t m K := by
  unfold pickM
  rw [evX_eq, onBool_eq]
  simp only [evX_eq, runK, opD]
  cases ev t c <;> try rfl
  rename_i b; cases b <;> rfl
theorem ldM_eq {ty : TypeId} {i : TI} (hi : ti.get ty = some i) (x : Operand) : ldM i.size i.agg (compX x) ti call t m K = runK ti call (.load ty x) t m K := by
  unfold ldM
  rw [evX_eq, onPtr_eq]
  simp [runK, opD, hi, loadX_eq, Option.bind_assoc]
theorem stM_eq {ty : TypeId} {i : TI} (hi : ti.get ty = some i) (x v : Operand) : stM i.size (compX x) (compX v) ti call t m K = runK ti call (.store ty x v) t m K := by
  unfold stM
  rw [evX_eq, onPtr_eq]
  simp only [runK, opD, hi, Option.bind_eq_bind, Option.bind_some, Option.bind_assoc, evX_eq, cellsX_eq, test_eq, storeX_eq, lenX_eq]
  refine congrArg _ (funext fun p => congrArg _ (funext fun vs => ?_))
  have : (Nat.beq vs.length i.size = true) = (vs.length = i.size) := by simp
  simp only [this]
  split
  · simp [Option.bind_assoc]
  · rfl
theorem newM_eq {ty : TypeId} {i : TI} (hi : ti.get ty = some i) : newM ty (lenX i.zero) (layX i.zero 0 .e) ti call t m K = runK ti call (.alloc ty) t m K := by
  unfold newM
  rw [newX_eq]
  simp [runK, opD, hi, Option.bind_assoc]
theorem boxM_eq {ty : TypeId} (x : Operand) : boxM ty (compX x) ti call t m K = runK ti call (.box ty x) t m K := by
  unfold boxM
  rw [evX_eq, cellsX_eq]
  simp only [newX_eq]
  simp [runK, opD, Option.bind_assoc]
theorem nilM_eq (x : Operand) : nilM (.nilCheck x) (compX x) ti call t m K = runK ti call (.nilCheck x) t m K := by
  unfold nilM
  rw [evX_eq, onSome_eq, slowM_eq]
  split
  · rename_i a ha
    simp [runK, opD, ha]
  · rfl
theorem notM_eq {ty : TypeId} (x : Operand) : notM (.unOp .not ty x) (compX x) ti call t m K = runK ti call (.unOp .not ty x) t m K := by
  unfold notM
  rw [evX_eq, onBool_eq, slowM_eq]
  split
  · rename_i b hb
    simp only [runK, opD, hb, unD]
    cases b <;> rfl
  · rfl
theorem convM_eq {src dst : TypeId} {i j : TI} {k k' : IntKind} (hi : ti.get dst = some i) (hj : ti.get src = some j) (hd : i.d = .int k) (hs : j.d = .int k') (x : Operand) :
    convM (.convert src dst x) k (compX x) ti call t m K = runK ti call (.convert src dst x) t m K := by
  unfold convM
  rw [evX_eq, onInt_eq, slowM_eq]
  split
  · rename_i k2 n hv
    have e : runK ti call (.convert src dst x) t m K = K (.int k (k.wrap (n : Int))) m := by
      simp [runK, opD, hi, hj, hd, hs, hv]
    rw [e]
    exact wrapX_eq k n (fun r => K r m) _ rfl
  · rfl
theorem fAddrM_eq {ty : TypeId} {f : Nat} {i : TI} {fs : List (Nat × Nat × Bool)} {q : Nat × Nat × Bool} (hi : ti.get ty = some i) (hd : i.d = .struct fs) (hf : fs[f]? = some q) (h0 : q.2.1 ≠ 0) (x : Operand) :
    fAddrM q.1 (compX x) ti call t m K = runK ti call (.fieldAddr ty x f) t m K := by
  unfold fAddrM
  rw [evX_eq, onPtr_eq]
  obtain ⟨o, sz, ag⟩ := q
  have hf' : fs[f]? = some (o, sz, ag) := hf
  simp only [runK, opD, hi, Option.bind_eq_bind, Option.bind_some, Option.bind_assoc]
  refine congrArg _ (funext fun p => ?_)
  simp only [hd]
  rw [show fs[f]?.bind _ = _ from congrArg (fun z => Option.bind z _) hf']
  have h0' : ¬ sz = 0 := h0
  simp only [Option.bind_some, if_neg h0']
  rfl
theorem iAddrSM_eq {ty : TypeId} {el sz : Nat} {i : TI} (hi : ti.get ty = some i) (hd : i.d = .slice el sz) (x ix : Operand) : iAddrSM sz (compX x) (compX ix) ti call t m K = runK ti call (.indexAddr ty x ix) t m K := by
  unfold iAddrSM
  rw [evX_eq, onInt_eq]
  simp only [runK, opD, hi, Option.bind_eq_bind, Option.bind_some, evX_eq, onSlice_eq, onAddr_eq, test_eq, hd]
  generalize ev t ix = u
  generalize ev t x = w
  unfold natOf
  cases u <;> try rfl
  rename_i k n
  cases n with
  | negSucc n => rfl
  | ofNat n =>
    simp only [Option.bind_some]
    cases w <;> try rfl
    rename_i a len c
    cases a with
    | none => rfl
    | some a =>
      obtain ⟨b, off, s⟩ := a
      cases s with
      | some s => rfl
      | none =>
        simp only [Nat.ble_eq]
        show (if n < len then _ else _) = _
        split <;> rfl
theorem iAddrAM_eq {ty : TypeId} {n e sz : Nat} {i : TI} (hi : ti.get ty = some i) (hd : i.d = .array n e sz) (x ix : Operand) : iAddrAM n sz (compX x) (compX ix) ti call t m K = runK ti call (.indexAddr ty x ix) t m K := by
  unfold iAddrAM
  rw [evX_eq, onInt_eq]
  simp only [runK, opD, hi, Option.bind_eq_bind, Option.bind_some, evX_eq, onPtr_eq, test_eq, hd]
  generalize ev t ix = u
  generalize ev t x = w
  unfold natOf
  cases u <;> try rfl
  rename_i k j
  cases j with
  | negSucc j => rfl
  | ofNat j =>
    simp only [Option.bind_some]
    unfold addrOf
    cases w <;> try rfl
    rename_i a
    cases a with
    | none => rfl
    | some a =>
      obtain ⟨b, off, s⟩ := a
      cases s with
      | some s => rfl
      | none =>
        simp only [Nat.ble_eq, Option.bind_some]
        show (if j < n then _ else _) = _
        split <;> rfl
theorem extM_eq (x : Operand) (i : Nat) : extM (compX x) i ti call t m K = runK ti call (.extract x i) t m K := by
  unfold extM
  rw [evX_eq, onTuple_eq]
  simp only [runK, opD]
  generalize ev t x = v
  cases v <;> try rfl
  rename_i vs
  obtain ⟨l⟩ := vs
  show nthX l i _ = _
  rw [nthX_eq]
  simp only [Option.bind_eq_bind, Option.bind_assoc]
  rfl
theorem callFM_eq (g : Nat) (args : Array Operand) (at' : Array TypeId) : callFM g (args.toList.map compX) ti call t m K = runK ti call (.call ⟨.value (.func g), args, at'⟩) t m K := by
  unfold callFM
  rw [evsX_eq, bindA_eq]
  simp only [runK, opD, ev]
  simp
theorem lenM_eq {ty : TypeId} {el sz : Nat} {i : TI} (hi : ti.get ty = some i) (hd : i.d = .slice el sz) {args : Array Operand} {at' : Array TypeId} {x : Operand} (ha : args.toList = [x]) (ht : at'.toList = [ty]) :
    lenM (.call ⟨.builtin .len, args, at'⟩) (compX x) ti call t m K = runK ti call (.call ⟨.builtin .len, args, at'⟩) t m K := by
  unfold lenM
  rw [evX_eq, onSlice_eq, slowM_eq]
  split
  · rename_i a n c hv
    simp [runK, opD, ha, builtinD, hv, ht, hi, hd]
  · rfl

theorem execX_eq (o : Op) : execX (compO ti o) ti call t m K = runK ti call o t m K := by
  have slow : execX (.slow o) ti call t m K = runK ti call o t m K := slowM_eq call o t m K
  unfold compO
  split
  · exact mvM_eq (ti := ti) (call := call) _
  · exact mvM_eq (ti := ti) (call := call) _
  · exact pickM_eq _ _ _
  · split
    · rename_i h; exact ldM_eq h _
    · exact slow
  · split
    · rename_i h; exact stM_eq h _ _
    · exact slow
  · split
    · rename_i h; exact newM_eq h
    · exact slow
  · exact boxM_eq _
  · exact nilM_eq _
  · split
    · rename_i h; exact binM_all h _ _
    · split
      · rename_i h; exact shM_all h _ _
      · exact slow
  · exact notM_eq _
  · split
    · rename_i h1 h2
      split
      · rename_i h3 h4; exact convM_eq h1 h2 h4 h3 _
      · exact slow
    · exact slow
  · split
    · rename_i h1
      split
      · rename_i h2
        split
        · rename_i h3
          split
          · exact slow
          · rename_i h4; exact fAddrM_eq h1 h2 h3 h4 _
        · exact slow
      · exact slow
    · exact slow
  · split
    · rename_i h1
      split
      · rename_i h2; exact iAddrSM_eq h1 h2 _ _
      · rename_i h2; exact iAddrAM_eq h1 h2 _ _
      · exact slow
    · exact slow
  · exact extM_eq _ _
  · exact callFM_eq _ _ _
  · split
    · rename_i h1 h2
      split
      · rename_i h3
        split
        · rename_i h4; exact lenM_eq h3 h4 h1 h2
        · exact slow
      · exact slow
    · exact slow
  · exact slow
end
end Go.Ab

namespace Go.Ab

/-! ### guards -/
inductive CG where
  | no
  | at (p : Pth) (w : Bool)
  | slow (all : List Oper) (g : Option (Nat × Bool))
noncomputable def onGuard (v : Value) (w : Bool) (f : Bool → An) : An :=
  Value.rec (motive_1 := fun _ => Bool → (Bool → An) → An) (motive_2 := fun _ => PUnit) (motive_3 := fun _ => PUnit)
    (fun b w f => f (Bool.rec (motive := fun _ => Bool) (Bool.rec (motive := fun _ => Bool) true false w) w b)) (fun _ _ _ _ => none) (fun _ _ _ _ => none) (fun _ _ _ _ _ => none) (fun _ _ _ => none) (fun _ _ _ => none) (fun _ _ _ _ _ => none) (fun _ _ _ => none) (fun _ _ _ => none)
    (fun _ _ _ _ _ _ _ => none) (fun _ _ => none) (fun _ _ _ _ _ => none) (fun _ _ => none) (fun _ _ _ _ => none) (fun _ _ _ f => f false) (fun _ _ => ⟨⟩) ⟨⟩ (fun _ _ _ _ => ⟨⟩) v w f
noncomputable def guardX (g : CG) (t : Tm) (f : Bool → An) : An :=
  CG.rec (motive := fun _ => Tm → (Bool → An) → An) (fun _ f => f true) (fun p w t f => bindA (getP p t) fun v => onGuard v w f) (fun all g t f => bindA (wantD all g t) f) g t f
noncomputable def compG (all : List Oper) (g : Option (Nat × Bool)) : CG :=
  match g with
  | none => .no
  | some (j, w) => match all[j]? with
    | some o => match o.dst with
      | some d => Bool.rec (motive := fun _ => CG) (.slow all (some (j, w))) (.at (pth d) w) (Nat.ble (Nat.add d 2) 16777216)
      | none => .slow all (some (j, w))
    | none => .slow all (some (j, w))
theorem guardX_eq (all : List Oper) (g : Option (Nat × Bool)) (t : Tm) (f : Bool → An) : guardX (compG all g) t f = (wantD all g t).bind f := by
  cases g with
  | none => rfl
  | some q =>
    obtain ⟨j, w⟩ := q
    unfold compG
    simp only
    cases ho : all[j]? with
    | none => exact bindA_eq _ _
    | some o =>
      simp only
      cases hd : o.dst with
      | none => exact bindA_eq _ _
      | some d =>
        simp only
        cases h : Nat.ble (Nat.add d 2) 16777216 with
        | false => exact bindA_eq _ _
        | true =>
          show bindA (getP (pth d) t) (fun v => onGuard v w f) = _
          rw [getP_pth (ble24 h), bindA_eq]
          unfold wantD
          simp only [ho, hd]
          cases t.get d with
          | none => rfl
          | some v =>
            cases v <;> try rfl
            rename_i b
            show f _ = f _
            cases b <;> cases w <;> rfl

/-! ### where a result goes -/
noncomputable def compDst (d : Option Nat) : Option Pth :=
  match d with
  | none => none
  | some d => some (pth d)
noncomputable def putX (d : Option Pth) (v : Value) (t : Tm) : Tm := Option.rec (motive := fun _ => Tm) t (fun p => setP (some v) p t) d
noncomputable def dstLow (d : Option Nat) : Bool := Option.rec (motive := fun _ => Bool) true (fun d => Nat.ble (Nat.add d 2) 16777216) d
theorem putX_eq {d : Option Nat} (h : dstLow d = true) (v : Value) (t : Tm) : putX (compDst d) v t = putT t d v := by
  cases d with
  | none => rfl
  | some d => exact setP_pth (ble24 h) _ _

/-! ### operations one behind the other -/
inductive CL where
  | nil
  | cons (op : CO) (d : Pth) (r : CL)
  | gen (g : CG) (op : CO) (d : Option Pth) (r : CL)
  | slow (all l : List Oper)
abbrev KT := Tm → Mem → An
noncomputable def goL (ti : Tr TI) (call : CallT) (l : CL) : Tm → Mem → KT → An :=
  CL.rec (motive := fun _ => Tm → Mem → KT → An) (fun t m K => K t m)
    (fun op d _ ih t m K => execX op ti call t m fun v m => ih (setP (some v) d t) m K)
    (fun g op d _ ih t m K => guardX g t fun b => Bool.rec (motive := fun _ => An) (ih (putX d undefV t) m K) (execX op ti call t m fun v m => ih (putX d v t) m K) b)
    (fun all l t m K => bindA (opsD ti call all l t m) fun p => K p.1 p.2) l
noncomputable def compL (ti : Tr TI) (all : List Oper) (l : List Oper) : CL :=
  List.rec (motive := fun _ => CL) .nil (fun o r ih => Bool.rec (motive := fun _ => CL) (.slow all (o :: r))
    (match o.guard, o.dst with
      | none, some d => .cons (compO ti o.op) (pth d) ih
      | g, d => .gen (compG all g) (compO ti o.op) (compDst d) ih) (dstLow o.dst)) l
theorem compL_cons (ti : Tr TI) (all : List Oper) (o : Oper) (r : List Oper) : compL ti all (o :: r) = if dstLow o.dst = true then (match o.guard, o.dst with
      | none, some d => .cons (compO ti o.op) (pth d) (compL ti all r)
      | g, d => .gen (compG all g) (compO ti o.op) (compDst d) (compL ti all r)) else .slow all (o :: r) := by
  show Bool.rec (motive := fun _ => CL) _ _ (dstLow o.dst) = _
  rw [boolRec]
  rfl
theorem goL_gen {ti : Tr TI} {call : CallT} {all : List Oper} {o : Oper} {r : List Oper} (h : dstLow o.dst = true) {X : CL} (ih : ∀ t m K, goL ti call X t m K = (opsD ti call all r t m).bind fun p => K p.1 p.2) (t : Tm) (m : Mem) (K : KT) :
    goL ti call (.gen (compG all o.guard) (compO ti o.op) (compDst o.dst) X) t m K = (opsD ti call all (o :: r) t m).bind fun p => K p.1 p.2 := by
  show guardX (compG all o.guard) t (fun b => Bool.rec (motive := fun _ => An) (goL ti call X (putX (compDst o.dst) undefV t) m K) (execX (compO ti o.op) ti call t m fun v m => goL ti call X (putX (compDst o.dst) v t) m K) b) = _
  rw [guardX_eq]
  simp only [opsD, Option.bind_eq_bind, Option.bind_assoc]
  refine congrArg _ (funext fun b => ?_)
  cases b with
  | false =>
    show goL ti call X (putX (compDst o.dst) undefV t) m K = _
    rw [ih, putX_eq h]
  | true =>
    show execX (compO ti o.op) ti call t m (fun v m => goL ti call X (putX (compDst o.dst) v t) m K) = _
    rw [execX_eq]
    simp only [runK, ih, putX_eq h, Option.bind_assoc]
theorem goL_eq (ti : Tr TI) (call : CallT) (all : List Oper) : ∀ (l : List Oper) (t : Tm) (m : Mem) (K : KT), goL ti call (compL ti all l) t m K = (opsD ti call all l t m).bind fun p => K p.1 p.2
  | [], _, _, _ => rfl
  | o :: r, t, m, K => by
    rw [compL_cons]
    split
    case isFalse => exact bindA_eq _ _
    rename_i h
    have main := goL_gen (ti := ti) (call := call) (all := all) (o := o) (r := r) h (goL_eq ti call all r) t m K
    split
    · rename_i d hg hd
      rw [hg, hd] at main
      rw [← main]
      rfl
    · exact main

/-! ### regions whose order is drawn -/
theorem posOf_shift (i : Nat) : ∀ (l : List Nat) (k : Nat), posOf i l k = (posOf i l 0).map (fun x => Nat.add k x)
  | [], _ => rfl
  | j :: l, k => by
    simp only [posOf]
    split
    · rfl
    · rw [posOf_shift i l (k + 1), posOf_shift i l (0 + 1)]
      cases posOf i l 0 with
      | none => rfl
      | some x =>
        simp only [Option.map_some, Option.some.injEq]
        show (k + 1) + x = k + ((0 + 1) + x)
        omega
inductive RL where
  | nil (key : Bool) (k : Nat)
  | cons (key : Bool) (k : Nat) (g : CG) (op : CO) (d : Option Pth) (r : RL)
  | early (key : Bool) (k : Nat) (g : CG) (ix : Nat) (op : Op) (d : Option Pth) (r : RL)
  | slow (keys early : List Nat) (k : Nat) (all l : List Oper)
abbrev Acc := List (Nat × Mem)
abbrev KR := Tm → Mem → Acc → An
noncomputable def pushX (key : Bool) (k : Nat) (m : Mem) (acc : Acc) : Acc := Bool.rec (motive := fun _ => Acc) acc ((k, m) :: acc) key
noncomputable def goR (ti : Tr TI) (call : CallT) (nx : Nat) (l : RL) : Tm → Mem → Acc → KR → An :=
  RL.rec (motive := fun _ => Tm → Mem → Acc → KR → An) (fun key k t m acc K => K t m (pushX key k m acc))
    (fun key k g op d _ ih t m acc K => guardX g t fun b => Bool.rec (motive := fun _ => An) (ih (putX d undefV t) m (pushX key k m acc) K) (execX op ti call t m fun v m' => ih (putX d v t) m' (pushX key k m acc) K) b)
    (fun key k g ix op d _ ih t m acc K => guardX g t fun b => Bool.rec (motive := fun _ => An) (ih (putX d undefV t) m (pushX key k m acc) K) (bindA (allocAt ti (Nat.add nx ix) op t m) fun p => ih (putX d p.1 t) p.2 (pushX key k m acc) K) b)
    (fun keys early k all l t m acc K => bindA (opsR ti call all early nx keys k l t m acc) fun p => K p.1 p.2.1 p.2.2) l
noncomputable def compR (ti : Tr TI) (all : List Oper) (early keys : List Nat) (l : List Oper) : Nat → RL :=
  List.rec (motive := fun _ => Nat → RL) (fun k => .nil (keys.contains k) k) (fun o r ih k => Bool.rec (motive := fun _ => RL) (.slow keys early k all (o :: r))
    (match posOf k early 0 with
      | none => .cons (keys.contains k) k (compG all o.guard) (compO ti o.op) (compDst o.dst) (ih (Nat.add k 1))
      | some ix => .early (keys.contains k) k (compG all o.guard) ix o.op (compDst o.dst) (ih (Nat.add k 1))) (dstLow o.dst)) l
theorem compR_cons (ti : Tr TI) (all : List Oper) (early keys : List Nat) (o : Oper) (r : List Oper) (k : Nat) : compR ti all early keys (o :: r) k = if dstLow o.dst = true then (match posOf k early 0 with
      | none => .cons (keys.contains k) k (compG all o.guard) (compO ti o.op) (compDst o.dst) (compR ti all early keys r (k + 1))
      | some ix => .early (keys.contains k) k (compG all o.guard) ix o.op (compDst o.dst) (compR ti all early keys r (k + 1))) else .slow keys early k all (o :: r) := by
  show Bool.rec (motive := fun _ => RL) _ _ (dstLow o.dst) = _
  rw [boolRec]
  rfl
theorem pushX_eq (key : Bool) (k : Nat) (m : Mem) (acc : Acc) : pushX key k m acc = if key = true then (k, m) :: acc else acc := by cases key <;> rfl
theorem goR_eq (ti : Tr TI) (call : CallT) (all : List Oper) (early keys : List Nat) (nx : Nat) : ∀ (l : List Oper) (k : Nat) (t : Tm) (m : Mem) (acc : Acc) (K : KR),
    goR ti call nx (compR ti all early keys l k) t m acc K = (opsR ti call all early nx keys k l t m acc).bind fun p => K p.1 p.2.1 p.2.2
  | [], k, t, m, acc, K => by
    show K t m (pushX (keys.contains k) k m acc) = _
    rw [pushX_eq]
    rfl
  | o :: r, k, t, m, acc, K => by
    rw [compR_cons]
    split
    case isFalse => exact bindA_eq _ _
    rename_i h
    have ih := goR_eq ti call all early keys nx r (k + 1)
    have hp := posOf_shift k early nx
    split
    · rename_i he
      show guardX (compG all o.guard) t (fun b => Bool.rec (motive := fun _ => An) (goR ti call nx (compR ti all early keys r (k + 1)) (putX (compDst o.dst) undefV t) m (pushX (keys.contains k) k m acc) K)
        (execX (compO ti o.op) ti call t m fun v m' => goR ti call nx (compR ti all early keys r (k + 1)) (putX (compDst o.dst) v t) m' (pushX (keys.contains k) k m acc) K) b) = _
      rw [guardX_eq]
      simp only [opsR, Option.bind_eq_bind, Option.bind_assoc]
      refine congrArg _ (funext fun b => ?_)
      cases b with
      | false =>
        show goR ti call nx _ _ _ _ K = _
        rw [ih, putX_eq h, pushX_eq]
      | true =>
        show execX (compO ti o.op) ti call t m (fun v m' => goR ti call nx _ (putX (compDst o.dst) v t) m' (pushX (keys.contains k) k m acc) K) = _
        rw [execX_eq]
        rw [he] at hp
        simp only [runK, ih, putX_eq h, pushX_eq, opR, hp, Option.map_none, Option.bind_assoc]
    · rename_i ix he
      show guardX (compG all o.guard) t (fun b => Bool.rec (motive := fun _ => An) (goR ti call nx (compR ti all early keys r (k + 1)) (putX (compDst o.dst) undefV t) m (pushX (keys.contains k) k m acc) K)
        (bindA (allocAt ti (Nat.add nx ix) o.op t m) fun p => goR ti call nx (compR ti all early keys r (k + 1)) (putX (compDst o.dst) p.1 t) p.2 (pushX (keys.contains k) k m acc) K) b) = _
      rw [guardX_eq]
      simp only [opsR, Option.bind_eq_bind, Option.bind_assoc]
      refine congrArg _ (funext fun b => ?_)
      cases b with
      | false =>
        show goR ti call nx _ _ _ _ K = _
        rw [ih, putX_eq h, pushX_eq]
      | true =>
        show bindA (allocAt ti (Nat.add nx ix) o.op t m) (fun p => goR ti call nx _ (putX (compDst o.dst) p.1 t) p.2 (pushX (keys.contains k) k m acc) K) = _
        rw [bindA_eq]
        rw [he] at hp
        simp only [ih, putX_eq h, pushX_eq, opR, hp, Option.map_some, Option.bind_assoc]
end Go.Ab

namespace Go.Ab

/-! ### code -/
inductive CC where
  | skip
  | reg (l : CL)
  | plan (l : RL) (n : Nat) (ops : List Oper) (pl : Plan)
  | seq (x y : CC)
  | cond (c : CX) (x y : CC)
  | block (id : Nat) (x : CC)
  | loop (x : CC)
  | exit (id : Nat)
  | ret
  | bad
def chkB (ti : Tr TI) (call : CallT) (ops : List Oper) (pl : Plan) (t : Tm) (acc : Acc) : Bool :=
  (pl.re.all fun q => match findM q.1 acc with | some mp => q.2.all (chkRe ti call ops t mp) | none => false) && pl.pairs.all (chkPair ti ops t)
noncomputable def planX (ti : Tr TI) (call : CallT) (l : RL) (n : Nat) (ops : List Oper) (pl : Plan) (t : Tm) (m : Mem) (K : KT) : An :=
  onMem m fun h nx => goR ti call nx l t ⟨h, Nat.add nx n⟩ [] fun t' m' acc => test (chkB ti call ops pl t' acc) (K t' m')
theorem planX_eq (ti : Tr TI) (call : CallT) (ops : List Oper) (pl : Plan) (t : Tm) (m : Mem) (K : KT) :
    planX ti call (compR ti ops pl.early (pl.re.map (·.1)) ops 0) pl.early.length ops pl t m K = (regR ti call ops pl t m).bind fun p => K p.1 p.2 := by
  show goR ti call m.nx _ t ⟨m.h, m.nx + pl.early.length⟩ [] _ = _
  rw [goR_eq]
  unfold regR
  simp only [Option.bind_eq_bind, Option.bind_assoc]
  refine congrArg _ (funext fun q => ?_)
  obtain ⟨t', m', acc⟩ := q
  show test (chkB ti call ops pl t' acc) (K t' m') = (if chkB ti call ops pl t' acc = true then some (t', m') else none).bind _
  cases chkB ti call ops pl t' acc <;> rfl

abbrev KX := Nat → Tm → Mem → An
abbrev EvT := CC → Tm → Mem → KT → KT → KX → An
noncomputable def evS (ti : Tr TI) (call : CallT) (c : CC) : EvT → Tm → Mem → KT → KT → KX → An :=
  CC.rec (motive := fun _ => EvT → Tm → Mem → KT → KT → KX → An)
    (fun _ t m Kn _ _ => Kn t m)
    (fun l _ t m Kn _ _ => goL ti call l t m Kn)
    (fun l n ops pl _ t m Kn _ _ => planX ti call l n ops pl t m Kn)
    (fun x y _ _ ih t m Kn Kr Kx => ih x t m (fun t m => ih y t m Kn Kr Kx) Kr Kx)
    (fun c x y _ _ ih t m Kn Kr Kx => evX c t fun v => onBool v (fun b => Bool.rec (motive := fun _ => An) (ih y t m Kn Kr Kx) (ih x t m Kn Kr Kx) b) none)
    (fun id x _ ih t m Kn Kr Kx => ih x t m Kn Kr fun j t m => Bool.rec (motive := fun _ => An) (Kx j t m) (Kn t m) (Nat.beq j id))
    (fun x _ ih t m Kn Kr Kx => ih x t m (fun t m => ih (.loop x) t m Kn Kr Kx) Kr Kx)
    (fun id _ t m _ _ Kx => Kx id t m)
    (fun _ t m _ Kr _ => Kr t m)
    (fun _ _ _ _ _ _ => none) c
noncomputable def evK (ti : Tr TI) (call : CallT) (fuel : Nat) : EvT :=
  Nat.rec (motive := fun _ => EvT) (fun _ _ _ _ _ _ => none) (fun _ ih c => evS ti call c ih) fuel

noncomputable def compReg (ti : Tr TI) (plans : Nat → Option Plan) (id : Nat) (ops : List Oper) (draw : Bool) : CC :=
  match draw with
  | false => .reg (compL ti ops ops)
  | true => match plans id with
    | none => .reg (compL ti ops ops)
    | some pl => .plan (compR ti ops pl.early (pl.re.map (·.1)) ops 0) pl.early.length ops pl
noncomputable def compC (ti : Tr TI) (plans : Nat → Option Plan) (c : Code) : CC :=
  match c with
  | .skip => .skip
  | .region id ops draw => compReg ti plans id ops.toList draw
  | .seq x y => .seq (compC ti plans x) (compC ti plans y)
  | .cond c x y => .cond (compX c) (compC ti plans x) (compC ti plans y)
  | .block id x => .block id (compC ti plans x)
  | .loop x => .loop (compC ti plans x)
  | .exit id => .exit id
  | .ret => .ret
  | _ => .bad

def endK (Kn Kr : KT) (Kx : KX) (r : Ex × Tm × Mem) : An :=
  match r with
  | (.normal, t, m) => Kn t m
  | (.ret, t, m) => Kr t m
  | (.exit j, t, m) => Kx j t m

theorem compReg_eq (ti : Tr TI) (plans : Nat → Option Plan) (call : CallT) (id : Nat) (ops : List Oper) (draw : Bool) (ih : EvT) (t : Tm) (m : Mem) (Kn Kr : KT) (Kx : KX) :
    evS ti call (compReg ti plans id ops draw) ih t m Kn Kr Kx = (rgD ti plans call id ops draw t m).bind fun p => Kn p.1 p.2 := by
  unfold compReg rgD
  cases draw with
  | false => exact goL_eq ti call _ _ t m Kn
  | true =>
    simp only
    cases plans id with
    | none => exact goL_eq ti call _ _ t m Kn
    | some pl => exact planX_eq ti call _ pl t m Kn

theorem evK_eq (ti : Tr TI) (plans : Nat → Option Plan) (call : CallT) : ∀ (n : Nat) (c : Code) (t : Tm) (m : Mem) (Kn Kr : KT) (Kx : KX),
    evK ti call n (compC ti plans c) t m Kn Kr Kx = (evC (rgD ti plans call) n c t m).bind (endK Kn Kr Kx) := by
  intro n
  induction n with
  | zero => intro c t m Kn Kr Kx; rfl
  | succ n ih =>
    intro c t m Kn Kr Kx
    show evS ti call (compC ti plans c) (evK ti call n) t m Kn Kr Kx = _
    cases c with
    | skip => rfl
    | region id ops draw =>
      simp only [compC, evC]
      rw [compReg_eq]
      cases rgD ti plans call id ops.toList draw t m <;> rfl
    | seq x y =>
      simp only [compC, evC]
      show evK ti call n (compC ti plans x) t m (fun t m => evK ti call n (compC ti plans y) t m Kn Kr Kx) Kr Kx = _
      rw [ih]
      cases evC (rgD ti plans call) n x t m with
      | none => rfl
      | some r =>
        obtain ⟨e, t1, m1⟩ := r
        cases e with
        | normal => exact ih y t1 m1 Kn Kr Kx
        | _ => rfl
    | cond c x y =>
      simp only [compC, evC]
      show evX (compX c) t (fun v => onBool v (fun b => Bool.rec (motive := fun _ => An) (evK ti call n (compC ti plans y) t m Kn Kr Kx) (evK ti call n (compC ti plans x) t m Kn Kr Kx) b) none) = _
      rw [evX_eq, onBool_eq, ih, ih]
      cases ev t c <;> try rfl
      rename_i b; cases b <;> rfl
    | block id x =>
      simp only [compC, evC]
      show evK ti call n (compC ti plans x) t m Kn Kr (fun j t m => Bool.rec (motive := fun _ => An) (Kx j t m) (Kn t m) (Nat.beq j id)) = _
      rw [ih]
      cases evC (rgD ti plans call) n x t m with
      | none => rfl
      | some r =>
        obtain ⟨e, t1, m1⟩ := r
        cases e with
        | exit j =>
          show Bool.rec (motive := fun _ => An) (Kx j t1 m1) (Kn t1 m1) (Nat.beq j id) = _
          rw [boolRec]
          by_cases h : j = id
          · subst h; simp [endK]
          · simp [endK, h]
        | _ => rfl
    | loop x =>
      simp only [compC, evC]
      show evK ti call n (compC ti plans x) t m (fun t m => evK ti call n (compC ti plans (.loop x)) t m Kn Kr Kx) Kr Kx = _
      rw [ih]
      cases evC (rgD ti plans call) n x t m with
      | none => rfl
      | some r =>
        obtain ⟨e, t1, m1⟩ := r
        cases e with
        | normal => exact ih (.loop x) t1 m1 Kn Kr Kx
        | _ => rfl
    | exit id => rfl
    | ret => rfl
    | _ => rfl
end Go.Ab

namespace Go.Ab

/-! ### results -/
inductive CV where
  | tmp (x : CX)
  | cell (sz : Nat) (agg : Bool) (x : CX)
  | bad
noncomputable def resX (l : List CV) : Tm → Mem → (List Value → An) → An :=
  List.rec (motive := fun _ => Tm → Mem → (List Value → An) → An) (fun _ _ K => K [])
    (fun q _ ih t m K => CV.rec (motive := fun _ => An) (fun x => evX x t fun v => ih t m fun l => K (v :: l))
      (fun sz agg x => evX x t fun p => onPtr p (fun b off => loadX b off sz agg m fun v => ih t m fun l => K (v :: l)) none) none q) l
noncomputable def compV (ti : Tr TI) (q : ResultVar) : CV :=
  match q with
  | .tmp i => .tmp (compX (.tmp i))
  | .cell a ty => match ti.get ty with
    | some i => .cell i.size i.agg (compX (.tmp a))
    | none => .bad
theorem resX_eq (ti : Tr TI) : ∀ (l : List ResultVar) (t : Tm) (m : Mem) (K : List Value → An), resX (l.map (compV ti)) t m K = (resD ti l t m).bind K
  | [], _, _, _ => rfl
  | .tmp i :: l, t, m, K => by
    show evX (compX (.tmp i)) t (fun v => resX (l.map (compV ti)) t m fun r => K (v :: r)) = _
    rw [evX_eq, resX_eq ti l]
    simp [resD, Option.bind_assoc]
  | .cell a ty :: l, t, m, K => by
    show resX (compV ti (.cell a ty) :: l.map (compV ti)) t m K = _
    unfold compV
    simp only [resD, Option.bind_eq_bind, Option.bind_assoc]
    cases hi : ti.get ty with
    | none =>
      show none = _
      simp only [Option.bind_none]
      cases addrOf (ev t (.tmp a)) <;> rfl
    | some i =>
      show evX (compX (.tmp a)) t (fun p => onPtr p (fun b off => loadX b off i.size i.agg m fun v => resX (l.map (compV ti)) t m fun r => K (v :: r)) none) = _
      rw [evX_eq, onPtr_eq]
      simp only [loadX_eq, resX_eq ti l, Option.bind_some]
      rfl
noncomputable def oneX (l : List Value) : Value := List.rec (motive := fun _ => Value) (.tuple ⟨[]⟩) (fun v r _ => List.rec (motive := fun _ => Value) v (fun _ _ _ => .tuple ⟨l⟩) r) l
theorem oneX_eq (l : List Value) : oneX l = oneOf l := by
  cases l with
  | nil => rfl
  | cons v r => cases r <;> rfl

/-! ### functions -/
structure CF where
  n : Nat
  res : List CV
  body : CC
noncomputable def compF (ti : Tr TI) (plans : Nat → Option Plan) (fi : FI) : CF := ⟨fi.ntmps, fi.res.map (compV ti), compC ti plans fi.body⟩
section
variable (ti : Tr TI) (cfs : Nat → Option CF) (ext : Nat → List Value → Mem → Option (Value × Mem)) (fuel : Nat)
noncomputable def evX1 (ih : CallT) (args : List Value) (m : Mem) (cf : CF) : An :=
  CF.rec (motive := fun _ => An) (fun n res body => test (Nat.ble (lenX args) n)
    (evK ti ih fuel body (layX args 0 .e) m (fun t m => resX res t m fun l => some (oneX l, m)) (fun t m => resX res t m fun l => some (oneX l, m)) (fun _ _ _ => none))) cf
noncomputable def evFX (k : Nat) : CallT :=
  Nat.rec (motive := fun _ => CallT) (fun _ _ _ => none) (fun _ ih f args m => Option.rec (motive := fun _ => An) (ext f args m) (evX1 ti fuel ih args m) (cfs f)) k
end
theorem evFX_eq {ti : Tr TI} {plans : Nat → Nat → Option Plan} {fns : Nat → Option FI} {cfs : Nat → Option CF} {ext ext' : Nat → List Value → Mem → Option (Value × Mem)} {fuel : Nat}
    (hc : ∀ f, cfs f = (fns f).map (compF ti (plans f))) (he : ext' = ext) : ∀ k, evFX ti cfs ext' fuel k = evF ti (fun f => rgD ti (plans f)) fns ext fuel k
  | 0 => by
    funext f args m
    rfl
  | k + 1 => by
    subst he
    have ih := evFX_eq (ti := ti) (plans := plans) (fns := fns) (cfs := cfs) (ext := ext') (ext' := ext') (fuel := fuel) hc rfl k
    funext f args m
    show Option.rec (motive := fun _ => An) (ext' f args m) (evX1 ti fuel (evFX ti cfs ext' fuel k) args m) (cfs f) = _
    rw [ih, hc f]
    simp only [evF]
    cases fns f with
    | none => rfl
    | some fi =>
      show test (Nat.ble (lenX args) fi.ntmps) (evK ti _ fuel (compC ti (plans f) fi.body) (layX args 0 .e) m (fun t m => resX (fi.res.map (compV ti)) t m fun l => some (oneX l, m)) (fun t m => resX (fi.res.map (compV ti)) t m fun l => some (oneX l, m)) (fun _ _ _ => none)) = _
      rw [test_eq, evK_eq, lenX_eq, layX_eq]
      simp only [Nat.ble_eq]
      split
      case isFalse => rfl
      cases evC (rgD ti (plans f) (evF ti (fun f => rgD ti (plans f)) fns ext' fuel k)) fuel fi.body (lay args 0 .e) m with
      | none => rfl
      | some r =>
        obtain ⟨e, t1, m1⟩ := r
        cases e with
        | normal =>
          show resX _ t1 m1 _ = _
          rw [resX_eq]
          simp [oneX_eq]
        | ret =>
          show resX _ t1 m1 _ = _
          rw [resX_eq]
          simp [oneX_eq]
        | exit j => rfl

/-! ### the atomic operations -/
noncomputable def arg1 (l : List Value) (f : Value → List Value → An) (d : An) : An := List.rec (motive := fun _ => An) d (fun v r _ => f v r) l
noncomputable def arg0 (l : List Value) (x d : An) : An := List.rec (motive := fun _ => An) x (fun _ _ _ => d) l
noncomputable def onU64 (v : Value) (f : Nat → An) (d : An) : An := onInt v (fun k n => Bool.rec (motive := fun _ => An) d (f n) (kEq k .u64)) d
theorem onU64_eq (v : Value) (f : Nat → An) (d : An) (h : ∀ n : Nat, v = .int .u64 (.ofNat n) → f n = d) : onU64 v f d = d := by
  unfold onU64
  rw [onInt_eq]
  split
  case h_2 => rfl
  rename_i k n
  rw [boolRec]
  split
  · rename_i hk
    rw [kEq_iff] at hk
    subst hk
    exact h n rfl
  · rfl
noncomputable def extL (args : List Value) (m : Mem) (d : An) : An :=
  arg1 args (fun p r => arg0 r (onPtr p (fun b off => loadX b off 1 false m fun v => onU64 v (fun n => some (.int .u64 (.ofNat n), m)) d) none) d) d
noncomputable def extS (args : List Value) (m : Mem) (d : An) : An :=
  arg1 args (fun p r => arg1 r (fun v r => arg0 r (onU64 v (fun n => onPtr p (fun b off => storeX b off [.int .u64 (.ofNat n)] m fun m => some (undefV, m)) none) d) d) d) d
noncomputable def extC (args : List Value) (m : Mem) (d : An) : An :=
  arg1 args (fun p r => arg1 r (fun u r => arg1 r (fun v r => arg0 r (onU64 u (fun o => onU64 v (fun n => onPtr p (fun b off => loadX b off 1 false m fun x => onU64 x (fun x =>
    Bool.rec (motive := fun _ => An) (some (.bool false, m)) (storeX b off [.int .u64 (.ofNat n)] m fun m => some (.bool true, m)) (Nat.beq x o)) d) none) d) d) d) d) d) d
noncomputable def extX (fS fL fC : Nat) (f : Nat) (args : List Value) (m : Mem) : An :=
  Bool.rec (motive := fun _ => An) (Bool.rec (motive := fun _ => An) (Bool.rec (motive := fun _ => An) none (extC args m (extD fS fL fC f args m)) (Nat.beq f fC)) (extS args m (extD fS fL fC f args m)) (Nat.beq f fS)) (extL args m (extD fS fL fC f args m)) (Nat.beq f fL)
theorem extX_eq (fS fL fC : Nat) : extX fS fL fC = extD fS fL fC := by
  funext f args m
  unfold extX
  rw [boolRec, boolRec, boolRec]
  simp only [Nat.beq_eq]
  split
  · rename_i h
    have hd : extD fS fL fC f args m = match args with
      | [p] => (addrOf p).bind fun q => (m.load q.1 q.2 1 false).bind fun v => match v with
        | .int .u64 n => some (.int .u64 n, m)
        | _ => none
      | _ => none := by
      unfold extD
      rw [if_pos h]
      rfl
    rcases args with _ | ⟨p, _ | ⟨q, r⟩⟩
    · rfl
    · show onPtr p (fun b off => loadX b off 1 false m fun v => onU64 v (fun n => some (.int .u64 (.ofNat n), m)) _) none = _
      rw [onPtr_eq]
      generalize hD : extD fS fL fC f [p] m = D at hd ⊢
      simp only at hd
      cases ha : addrOf p with
      | none => rw [hd, ha]; rfl
      | some a =>
        obtain ⟨b, off⟩ := a
        simp only [ha, Option.bind_some] at hd ⊢
        rw [loadX_eq]
        cases hl : m.load b off 1 false with
        | none => rw [hd, hl]; rfl
        | some v =>
          simp only [hl, Option.bind_some] at hd ⊢
          refine onU64_eq v _ _ fun n hv => ?_
          rw [hd, hv]
    · rfl
  · rename_i h
    split
    · rename_i h2
      have hd : extD fS fL fC f args m = match args with
        | [p, .int .u64 n] => (addrOf p).bind fun q => (m.store q.1 q.2 [.int .u64 n]).bind fun m => some (undefV, m)
        | _ => none := by
        unfold extD
        rw [if_neg h, if_pos h2]
        rfl
      rcases args with _ | ⟨p, _ | ⟨v, _ | ⟨r, s⟩⟩⟩
      · rfl
      · rfl
      · show onU64 v (fun n => onPtr p (fun b off => storeX b off [.int .u64 (.ofNat n)] m fun m => some (undefV, m)) none) _ = _
        refine onU64_eq v _ _ fun n hv => ?_
        subst hv
        rw [hd, onPtr_eq]
        simp only [storeX_eq]

      · rfl
    · rename_i h2
      split
      · rename_i h3
        have hd : extD fS fL fC f args m = match args with
          | [p, .int .u64 o, .int .u64 n] => (addrOf p).bind fun q => (m.load q.1 q.2 1 false).bind fun v => match v with
            | .int .u64 x => match x == o with
              | true => (m.store q.1 q.2 [.int .u64 n]).bind fun m => some (.bool true, m)
              | false => some (.bool false, m)
            | _ => none
          | _ => none := by
          unfold extD
          rw [if_neg h, if_neg h2, if_pos h3]
          rfl
        rcases args with _ | ⟨p, _ | ⟨u, _ | ⟨v, _ | ⟨r, s⟩⟩⟩⟩
        · rfl
        · rfl
        · rfl
        · show onU64 u (fun o => onU64 v (fun n => onPtr p (fun b off => loadX b off 1 false m fun x => onU64 x (fun x =>
            Bool.rec (motive := fun _ => An) (some (.bool false, m)) (storeX b off [.int .u64 (.ofNat n)] m fun m => some (.bool true, m)) (Nat.beq x o)) _) none) _) _ = _
          refine onU64_eq u _ _ fun o hu => onU64_eq v _ _ fun n hv => ?_
          subst hu; subst hv
          rw [onPtr_eq]
          generalize extD fS fL fC f [p, .int .u64 (.ofNat o), .int .u64 (.ofNat n)] m = D at hd ⊢
          simp only at hd
          cases ha : addrOf p with
          | none => rw [hd, ha]; rfl
          | some a =>
            obtain ⟨b, off⟩ := a
            simp only [ha, Option.bind_some] at hd ⊢
            rw [loadX_eq]
            cases hl : m.load b off 1 false with
            | none => rw [hd, hl]; rfl
            | some y =>
              simp only [hl, Option.bind_some] at hd ⊢
              refine onU64_eq y _ _ fun x hy => ?_
              rw [hd, hy, storeX_eq]
              simp only
              rw [beq_int x o]
              show _ = match (x : Int) == (o : Int) with | true => _ | false => _
              cases ((x : Int) == (o : Int)) <;> rfl
        · rfl
      · rename_i h3
        unfold extD
        rw [if_neg h, if_neg h2, if_neg h3]
end Go.Ab
end
