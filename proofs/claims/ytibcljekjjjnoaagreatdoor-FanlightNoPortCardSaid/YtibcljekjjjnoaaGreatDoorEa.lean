import Derived.Test.YtibcljekjjjnoaaGreatDoorAd
/- A part of the proof of FanlightNoPort: Ea. -/
set_option linter.all false
noncomputable section
/- Registers that a code does not read: what they hold turns nothing. -/
namespace Go.Ab
variable {ti : Tr TI}

def Al (D : Nat → Bool) (T T' : Tm) : Prop := ∀ i, D i = false → T.get i = T'.get i
def freeO (D : Nat → Bool) : Operand → Bool
  | .tmp i => !D i
  | _ => true
def freeG (D : Nat → Bool) (all : List Oper) : Option (Nat × Bool) → Bool
  | none => true
  | some (j, _) => match all[j]? with
    | some o => match o.dst with
      | some d => !D d
      | none => true
    | none => true
def freeR (D : Nat → Bool) (all l : List Oper) : Bool := l.all fun o => o.op.operands.toList.all (freeO D) && freeG D all o.guard
def freeC (D : Nat → Bool) : Code → Bool
  | .region _ ops draw => !draw && freeR D ops.toList ops.toList
  | .seq x y => freeC D x && freeC D y
  | .cond c x y => freeO D c && (freeC D x && freeC D y)
  | .block _ x => freeC D x
  | .loop x => freeC D x
  | _ => true

theorem Al.refl (D : Nat → Bool) (T : Tm) : Al D T T := fun _ _ => rfl
theorem Al.more {D D' : Nat → Bool} {T T' : Tm} (h : Al D T T') (hd : ∀ i, D' i = false → D i = false) : Al D' T T' := fun i hi => h i (hd i hi)
theorem ev_al {D : Nat → Bool} {T T' : Tm} (h : Al D T T') {o : Operand} (ho : freeO D o = true) : ev T o = ev T' o := by
  cases o with
  | tmp i =>
    have : D i = false := by simpa [freeO] using ho
    simp only [ev, h i this]
  | _ => rfl
theorem put_get (T : Tm) (k : Nat) (v : Value) (i : Nat) : (T.put k v).get i = if k + 1 < 2 ^ Tr.deep ∧ i = k then some v else T.get i := by
  unfold Tr.put
  by_cases hk : k + 1 < 2 ^ Tr.deep
  · rw [Tr.get_set _ _ _ _ _ hk]
    simp [hk]
  · rw [Tr.get_set_beyond _ _ _ _ hk]
    simp [hk]
theorem Al.put {D : Nat → Bool} {T T' : Tm} (h : Al D T T') (d : Option Nat) (v : Value) : Al D (putT T d v) (putT T' d v) := by
  cases d with
  | none => exact h
  | some d =>
    intro i hi
    simp only [putT, put_get, h i hi]
/-- what is laid into a register that is not read -/
theorem Al.put2 {D : Nat → Bool} {T T' : Tm} (h : Al D T T') {d : Nat} (hd : D d = true) (v v' : Value) : Al D (T.put d v) (T'.put d v') := by
  intro i hi
  have : i ≠ d := by rintro rfl; rw [hd] at hi; cases hi
  simp only [put_get, this, and_false, if_false, h i hi]
theorem wantD_al {D : Nat → Bool} {T T' : Tm} (h : Al D T T') {all : List Oper} {g : Option (Nat × Bool)} (hg : freeG D all g = true) : wantD all g T = wantD all g T' := by
  cases g with
  | none => rfl
  | some q =>
    obtain ⟨j, w⟩ := q
    simp only [wantD]
    simp only [freeG] at hg
    cases ho : all[j]? with
    | none => rfl
    | some o =>
      simp only [ho] at hg ⊢
      cases hd : o.dst with
      | none => rfl
      | some d =>
        simp only [hd] at hg ⊢
        rw [h d (by simpa using hg)]
def RT (D : Nat → Bool) (x x' : Option (Tm × Mem)) : Prop := (x = none ∧ x' = none) ∨ ∃ T T' m, x = some (T, m) ∧ x' = some (T', m) ∧ Al D T T'
theorem opsD_al {call : Nat → List Value → Mem → Option (Value × Mem)} {D : Nat → Bool} {all : List Oper} : ∀ (l : List Oper) (T T' : Tm) (m : Mem), freeR D all l = true → Al D T T' → RT D (opsD ti call all l T m) (opsD ti call all l T' m)
  | [], T, T', m, _, h => .inr ⟨T, T', m, rfl, rfl, h⟩
  | o :: l, T, T', m, hf, h => by
    simp only [freeR, List.all_cons, Bool.and_eq_true] at hf
    obtain ⟨⟨h1, h2⟩, h3⟩ := hf
    have h3 : freeR D all l = true := by simpa [freeR] using h3
    have ho : opD ti call o.op T m = opD ti call o.op T' m := opD_congr o.op fun x hx => ev_al h (List.all_eq_true.1 h1 x hx)
    simp only [opsD, wantD_al h h2, ho, Option.bind_eq_bind]
    cases wantD all o.guard T' with
    | none => exact .inl ⟨rfl, rfl⟩
    | some b =>
      cases b with
      | false => exact opsD_al l _ _ m h3 (h.put _ _)
      | true =>
        simp only [Option.bind_some]
        cases opD ti call o.op T' m with
        | none => exact .inl ⟨rfl, rfl⟩
        | some p => exact opsD_al l _ _ p.2 h3 (h.put _ _)
def RC (D : Nat → Bool) (x x' : Option (Ex × Tm × Mem)) : Prop := (x = none ∧ x' = none) ∨ ∃ e T T' m, x = some (e, T, m) ∧ x' = some (e, T', m) ∧ Al D T T'
theorem evC_al {plans : Nat → Option Plan} {call : Nat → List Value → Mem → Option (Value × Mem)} {D : Nat → Bool} : ∀ (n : Nat) (c : Code) (T T' : Tm) (m : Mem), freeC D c = true → Al D T T' →
    RC D (evC (rgD ti plans call) n c T m) (evC (rgD ti plans call) n c T' m) := by
  intro n
  induction n with
  | zero => intro c T T' m _ _; exact .inl ⟨rfl, rfl⟩
  | succ n ih =>
    intro c T T' m hf h
    cases c with
    | skip => exact .inr ⟨_, _, _, _, rfl, rfl, h⟩
    | region id ops draw =>
      simp only [freeC, Bool.and_eq_true, Bool.not_eq_true'] at hf
      obtain ⟨rfl, hf⟩ := hf
      simp only [evC, rgD]
      rcases opsD_al (ti := ti) (call := call) ops.toList T T' m hf h with ⟨h1, h2⟩ | ⟨T1, T1', m1, h1, h2, h3⟩
      · rw [h1, h2]; exact .inl ⟨rfl, rfl⟩
      · rw [h1, h2]; exact .inr ⟨_, _, _, _, rfl, rfl, h3⟩
    | seq x y =>
      simp only [freeC, Bool.and_eq_true] at hf
      simp only [evC]
      rcases ih x T T' m hf.1 h with ⟨h1, h2⟩ | ⟨e, T1, T1', m1, h1, h2, h3⟩
      · rw [h1, h2]; exact .inl ⟨rfl, rfl⟩
      · rw [h1, h2]
        cases e with
        | normal => exact ih y T1 T1' m1 hf.2 h3
        | _ => exact .inr ⟨_, _, _, _, rfl, rfl, h3⟩
    | cond c x y =>
      simp only [freeC, Bool.and_eq_true] at hf
      simp only [evC, ev_al h hf.1]
      split
      · exact ih x T T' m hf.2.1 h
      · exact ih y T T' m hf.2.2 h
      · exact .inl ⟨rfl, rfl⟩
    | block id x =>
      simp only [freeC] at hf
      simp only [evC]
      rcases ih x T T' m hf h with ⟨h1, h2⟩ | ⟨e, T1, T1', m1, h1, h2, h3⟩
      · rw [h1, h2]; exact .inl ⟨rfl, rfl⟩
      · rw [h1, h2]
        cases e with
        | exit j =>
          simp only
          split
          · exact .inr ⟨_, _, _, _, rfl, rfl, h3⟩
          · exact .inr ⟨_, _, _, _, rfl, rfl, h3⟩
        | _ => exact .inr ⟨_, _, _, _, rfl, rfl, h3⟩
    | loop x =>
      simp only [evC]
      rcases ih x T T' m (by simpa [freeC] using hf) h with ⟨h1, h2⟩ | ⟨e, T1, T1', m1, h1, h2, h3⟩
      · rw [h1, h2]; exact .inl ⟨rfl, rfl⟩
      · rw [h1, h2]
        cases e with
        | normal => exact ih (.loop x) T1 T1' m1 hf h3
        | _ => exact .inr ⟨_, _, _, _, rfl, rfl, h3⟩
    | exit id => exact .inr ⟨_, _, _, _, rfl, rfl, h⟩
    | ret => exact .inr ⟨_, _, _, _, rfl, rfl, h⟩
    | _ => exact .inl ⟨rfl, rfl⟩
end Go.Ab

namespace Go.Ab
variable {ti : Tr TI}

/-- a code that does not write a register -/
def keepR (j : Nat) (l : List Oper) : Bool := l.all fun o => match o.dst with | some d => !(d == j) | none => true
def keepC (j : Nat) : Code → Bool
  | .region _ ops draw => !draw && keepR j ops.toList
  | .seq x y => keepC j x && keepC j y
  | .cond _ x y => keepC j x && keepC j y
  | .block _ x => keepC j x
  | .loop x => keepC j x
  | _ => true
theorem putT_keep {j : Nat} {d : Option Nat} (h : (match d with | some d => !(d == j) | none => true) = true) (T : Tm) (v : Value) : (putT T d v).get j = T.get j := by
  cases d with
  | none => rfl
  | some d =>
    have : j ≠ d := by rintro rfl; simp at h
    exact Tr.get_put_ne T v this
theorem opsD_keep {call : Nat → List Value → Mem → Option (Value × Mem)} {all : List Oper} {j : Nat} : ∀ (l : List Oper) (T : Tm) (m : Mem) (T1 : Tm) (m1 : Mem), keepR j l = true → opsD ti call all l T m = some (T1, m1) → T1.get j = T.get j
  | [], T, m, T1, m1, _, h => by
    simp only [opsD, Option.some.injEq, Prod.mk.injEq] at h
    rw [h.1]
  | o :: l, T, m, T1, m1, hk, h => by
    simp only [keepR, List.all_cons, Bool.and_eq_true] at hk
    obtain ⟨h1, h3⟩ := hk
    have h3 : keepR j l = true := by simpa [keepR] using h3
    simp only [opsD, Option.bind_eq_bind, Option.bind_eq_some_iff] at h
    obtain ⟨b, _, h⟩ := h
    cases b with
    | false =>
      simp only at h
      rw [opsD_keep l _ m T1 m1 h3 h, putT_keep h1]
    | true =>
      simp only [Option.bind_eq_some_iff] at h
      obtain ⟨p, _, h⟩ := h
      rw [opsD_keep l _ p.2 T1 m1 h3 h, putT_keep h1]
theorem evC_keep {plans : Nat → Option Plan} {call : Nat → List Value → Mem → Option (Value × Mem)} {j : Nat} : ∀ (n : Nat) (c : Code) (T : Tm) (m : Mem) (e : Ex) (T1 : Tm) (m1 : Mem), keepC j c = true →
    evC (rgD ti plans call) n c T m = some (e, T1, m1) → T1.get j = T.get j := by
  intro n
  induction n with
  | zero => intro c T m e T1 m1 _ h; cases h
  | succ n ih =>
    intro c T m e T1 m1 hk h
    cases c with
    | skip => simp only [evC, Option.some.injEq, Prod.mk.injEq] at h; rw [h.2.1]
    | region id ops draw =>
      simp only [keepC, Bool.and_eq_true, Bool.not_eq_true'] at hk
      obtain ⟨rfl, hk⟩ := hk
      simp only [evC, rgD] at h
      split at h
      · rename_i T2 m2 h2
        cases h
        exact opsD_keep _ _ _ _ _ hk h2
      · cases h
    | seq x y =>
      simp only [keepC, Bool.and_eq_true] at hk
      simp only [evC] at h
      split at h
      · rename_i T2 m2 h2
        rw [ih y _ _ _ _ _ hk.2 h, ih x _ _ _ _ _ hk.1 h2]
      · exact ih x _ _ _ _ _ hk.1 h
    | cond c x y =>
      simp only [keepC, Bool.and_eq_true] at hk
      simp only [evC] at h
      split at h
      · exact ih x _ _ _ _ _ hk.1 h
      · exact ih y _ _ _ _ _ hk.2 h
      · cases h
    | block id x =>
      simp only [keepC] at hk
      simp only [evC] at h
      split at h
      · rename_i j' T2 m2 h2
        split at h
        · cases h; exact ih x _ _ _ _ _ hk h2
        · cases h; exact ih x _ _ _ _ _ hk h2
      · exact ih x _ _ _ _ _ hk h
    | loop x =>
      simp only [evC] at h
      split at h
      · rename_i T2 m2 h2
        rw [ih (.loop x) _ _ _ _ _ hk h, ih x _ _ _ _ _ (by simpa [keepC] using hk) h2]
      · exact ih x _ _ _ _ _ (by simpa [keepC] using hk) h
    | exit id => simp only [evC, Option.some.injEq, Prod.mk.injEq] at h; rw [h.2.1]
    | ret => simp only [evC, Option.some.injEq, Prod.mk.injEq] at h; rw [h.2.1]
    | _ => cases h

/-- one operation, on both sides -/
theorem opsD_step {call : Nat → List Value → Mem → Option (Value × Mem)} {all : List Oper} {o : Oper} {r : List Oper} {d : Nat} {T : Tm} {m : Mem} {v : Value} (hg : o.guard = none) (hd : o.dst = some d) (h : opD ti call o.op T m = some (v, m)) :
    opsD ti call all (o :: r) T m = opsD ti call all r (T.put d v) m := by
  simp only [opsD, hg, wantD, Option.bind_eq_bind, Option.bind_some, h, hd, putT]
/-- what follows is alike -/
theorem RC.seq {plans : Nat → Option Plan} {call : Nat → List Value → Mem → Option (Value × Mem)} {D D1 : Nat → Bool} {n : Nat} {x y : Code} {T T' : Tm} {m : Mem} (hD : ∀ i, D i = false → D1 i = false)
    (hx : RC D1 (evC (rgD ti plans call) n x T m) (evC (rgD ti plans call) n x T' m))
    (hy : ∀ T1 T1' m1, evC (rgD ti plans call) n x T m = some (.normal, T1, m1) → evC (rgD ti plans call) n x T' m = some (.normal, T1', m1) → Al D1 T1 T1' → RC D (evC (rgD ti plans call) n y T1 m1) (evC (rgD ti plans call) n y T1' m1)) :
    RC D (evC (rgD ti plans call) (n + 1) (.seq x y) T m) (evC (rgD ti plans call) (n + 1) (.seq x y) T' m) := by
  simp only [evC]
  rcases hx with ⟨h1, h2⟩ | ⟨e, T1, T1', m1, h1, h2, h3⟩
  · rw [h1, h2]; exact .inl ⟨rfl, rfl⟩
  · rw [h1, h2]
    cases e with
    | normal => exact hy T1 T1' m1 h1 h2 h3
    | _ => exact .inr ⟨_, _, _, _, rfl, rfl, h3.more hD⟩
/-- a conversion of a number that is to be taken by a remainder: the remainder alone is told -/
theorem convRem {call : Nat → List Value → Mem → Option (Value × Mem)} {all r : List Oper} {o0 o1 o2 : Oper} {i0 j0 j1 j2 tI tU : Nat} {tyI tyU : TI} {c : Int} {y : TypeId} (g0 : o0.guard = none) (g1 : o1.guard = none) (g2 : o2.guard = none)
    (d0 : o0.dst = some j0) (d1 : o1.dst = some j1) (d2 : o2.dst = some j2) (e0 : o0.op = .move (.tmp i0)) (e1 : o1.op = .convert tI tU (.tmp j0)) (e2 : o2.op = .binOp .rem tU (.tmp j1) (.const (.int .u64 c)) y)
    (hI : ti.get tI = some tyI) (hU : ti.get tU = some tyU) (hId : tyI.d = .int .i64) (hUd : tyU.d = .int .u64) (hc : c ≠ 0) (l0 : j0 + 1 < 2 ^ Tr.deep) (l1 : j1 + 1 < 2 ^ Tr.deep)
    {T : Tm} {m : Mem} {p : Int} (hp : T.get i0 = some (.int .i64 p)) :
    opsD ti call all (o0 :: o1 :: o2 :: r) T m = opsD ti call all r (((T.put j0 (.int .i64 p)).put j1 (.int .u64 (IntKind.u64.wrap p))).put j2 (.int .u64 ((IntKind.u64.wrap p).tmod c))) m := by
  have s0 : opD ti call o0.op T m = some (.int .i64 p, m) := by rw [e0]; simp [opD, ev, hp]
  rw [opsD_step g0 d0 s0]
  have s1 : opD ti call o1.op (T.put j0 (.int .i64 p)) m = some (.int .u64 (IntKind.u64.wrap p), m) := by
    rw [e1]
    simp [opD, ev, put_get, l0, hI, hU, hId, hUd]
  rw [opsD_step g1 d1 s1]
  have s2 : opD ti call o2.op ((T.put j0 (.int .i64 p)).put j1 (.int .u64 (IntKind.u64.wrap p))) m = some (.int .u64 ((IntKind.u64.wrap p).tmod c), m) := by
    rw [e2]
    simp [opD, ev, put_get, l1, binD, intD, hc]
  rw [opsD_step g2 d2 s2]
end Go.Ab
end
