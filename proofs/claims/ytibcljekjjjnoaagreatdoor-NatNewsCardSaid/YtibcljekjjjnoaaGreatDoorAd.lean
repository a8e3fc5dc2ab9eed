import Derived.Test.YtibcljekjjjnoaaGreatDoorAc
import Derived.Orders
import Derived.Laws.LoneSync
/- A part of the proof of FanlightNoPort: Ad. -/
set_option linter.all false
noncomputable section
namespace Go.Ab
variable {P : Program} {ti : Tr TI}

def rangeOf (ti : Tr TI) (o : Op) (t : Tm) : Option (Nat × Nat × Nat) :=
  match o with
  | .store ty a _ | .load ty a => match addrOf (ev t a), ti.get ty with
    | some (b, off), some i => some (b, off, i.size)
    | _, _ => none
  | _ => none

def stv (ops : List Oper) (T : Nat → Tm) (s : Nat) : Nat × Nat × List Value :=
  match ops[s]? with
  | some o => match o.op with
    | .store _ a x => match addrOf (ev (T s) a), cellsOf (ev (T s) x) with
      | some (b, off), some vs => (b, off, vs)
      | _, _ => (0, 0, [])
    | _ => (0, 0, [])
  | none => (0, 0, [])

def ChainAt (ti : Tr TI) (ops : List Oper) (i : Nat) : Prop := ∃ o, ops[i]? = some o ∧ isChain ti o = true
def StoreAt (ti : Tr TI) (ops : List Oper) (i : Nat) : Prop := ∃ o, ops[i]? = some o ∧ isStore ti o = true

/-- what the two looks at a region, ahead of the run and at it, have shown -/
structure Ctx (P : Program) (ti : Tr TI) (call : Nat → List Value → Mem → Option (Value × Mem)) (ops : List Oper) (A : List Nat) (pl : Plan) (N nx fin : Nat) (T : Nat → Tm) (M : Nat → Mem) (V : Nat → Value) (W : Nat → Bool) : Prop where
  hT : Types P ti
  cs : CallSim P ti call
  ok : ops.all (opOk N) = true
  low : N < 2 ^ Tr.deep
  tr : Trace ti call ops pl.early nx 0 ops T M V W
  anc : ancOk ops A = true
  sw : ∀ (i j : Nat) (oi oj : Oper) (x : Nat), ops[i]? = some oi → ops[j]? = some oj → oi.dst = some x → oj.dst = some x → i = j
  look : ∀ (i : Nat) (o : Oper), ops[i]? = some o → ∀ x ∈ looks ops o, ∀ (j : Nat) (q : Oper), ops[j]? = some q → q.dst = some x → i = j ∨ bef A j i = true ∨ bef A i j = true
  guard : ∀ (i : Nat) (o : Oper) (g : Nat) (b : Bool), ops[i]? = some o → o.guard = some (g, b) → bef A g i = true ∧ (gtmp ops o).isSome = true
  chain : ∀ (i j : Nat), ChainAt ti ops i → ChainAt ti ops j → i < j → bef A i j = true ∨ j ∈ pl.early
  early : ∀ i ∈ pl.early, ∃ o, ops[i]? = some o ∧ isAlloc o.op = true
  store : ∀ (s c : Nat), StoreAt ti ops s → ChainAt ti ops c → bef A c s = true
  reC : ∀ (i c : Nat) (o : Oper), ops[i]? = some o → isRead ti o = true → ChainAt ti ops c → bef A c i = false → (∀ j, ChainAt ti ops j → j < c → bef A i j = false) →
    (i ≤ c ∧ ∀ j, ChainAt ti ops j → ¬ (i ≤ j ∧ j < c)) ∨ reAt pl c i = true
  reF : ∀ (i : Nat) (o : Oper), ops[i]? = some o → isRead ti o = true → (∀ j, ChainAt ti ops j → bef A i j = false) → (∀ j, ChainAt ti ops j → j < i) ∨ reAt pl fin i = true
  finLe : fin ≤ ops.length
  finUp : ∀ c, ChainAt ti ops c → c < fin
  finAt : 0 < fin → ChainAt ti ops (fin - 1)
  pair : ∀ (i j : Nat) (o : Oper), ops[i]? = some o → (isStore ti o = true ∨ kd ti o.op = .load) → StoreAt ti ops j → i ≠ j → (isStore ti o = false ∧ (bef A j i = true ∨ bef A i j = true)) ∨ pairIn pl i j = true
  re : ∀ (p i : Nat) (o : Oper), reAt pl p i = true → ops[i]? = some o → W i = true → ∃ m', opD ti call o.op (T i) (M p) = some (V i, m')
  pr : ∀ (i j : Nat) (oi oj : Oper) ri rj, pairIn pl i j = true → ops[i]? = some oi → ops[j]? = some oj → W i = true → W j = true → rangeOf ti oi.op (T i) = some ri → rangeOf ti oj.op (T j) = some rj → apartR ri rj = true

structure Inv (ti : Tr TI) (ops : List Oper) (pl : Plan) (nx : Nat) (T : Nat → Tm) (V : Nat → Value) (ρ0 : Rn) (m0 : Mem) (w0 : World) (a0 : Act) (listed : Array Bool) (a : Act) (w : World) (ρ : Rn) (m : Mem) (t : Tm) : Prop where
  size : listed.size = ops.length
  closed : Closed ops listed
  new : ∀ (i : Nat) (o : Oper) (x : Nat), ops[i]? = some o → On listed i → o.dst = some x → t.get x = some (V i)
  old : ∀ x, (∀ (i : Nat) (o : Oper), ops[i]? = some o → On listed i → o.dst ≠ some x) → t.get x = (T 0).get x
  or : OR ρ t a.eval
  rel : Rel ti ρ m w
  ext : Ext ρ0 m0 w0 ρ m w
  asz : a.tmps.size = a0.tmps.size
  adf : a.defers = a0.defers
  mnx : nx + pl.early.length ≤ m.nx
  notyet : ∀ i r, posOf i pl.early nx = some r → ¬ On listed i → ρ r = none

/-- the memory stands where the text stands at p; what was made ahead of its turn is there -/
structure Mid (ti : Tr TI) (ops : List Oper) (pl : Plan) (nx : Nat) (T : Nat → Tm) (M : Nat → Mem) (W : Nat → Bool) (w0 : World) (listed : Array Bool) (w : World) (ρ : Rn) (m : Mem) (p : Nat) : Prop where
  below : ∀ c, ChainAt ti ops c → c < p → On listed c
  mem : m = M p
  ahead : ∀ i, p ≤ i → ChainAt ti ops i → On listed i → i ∈ pl.early
  pend : ∀ (i r : Nat) (o : Oper) (el : Nat) (l : List Value) (k : Option Nat), p ≤ i → posOf i pl.early nx = some r → ops[i]? = some o → rowOf ti o.op (T i) = some (el, l, k) → On listed i → W i = true → Pend ti ρ w0 w m el l r
  dist : ∀ (i j r q : Nat) (L K : Loc), p ≤ i → p ≤ j → i ≠ j → posOf i pl.early nx = some r → posOf j pl.early nx = some q → On listed i → On listed j → W i = true → W j = true → ρ r = some L → ρ q = some K → L.blk ≠ K.blk

structure Fin (ti : Tr TI) (ops : List Oper) (fin : Nat) (T : Nat → Tm) (M : Nat → Mem) (W : Nat → Bool) (listed : Array Bool) (m : Mem) : Prop where
  all : ∀ c, ChainAt ti ops c → On listed c
  over : Over (fun s => (StoreAt ti ops s ∧ W s = true) ∧ On listed s) (stv ops T) m (M fin)
  lows : ∀ (b ty n : Nat) (c : Tr Value), (M fin).h.get b = some (.cells ty n c) → b + 1 < 2 ^ Tr.deep ∧ n + 1 < 2 ^ Tr.deep

def At (ti : Tr TI) (ops : List Oper) (pl : Plan) (nx fin : Nat) (T : Nat → Tm) (M : Nat → Mem) (W : Nat → Bool) (w0 : World) (listed : Array Bool) (w : World) (ρ : Rn) (m : Mem) : Prop :=
  (∃ c, ChainAt ti ops c ∧ ¬ On listed c ∧ Mid ti ops pl nx T M W w0 listed w ρ m c) ∨ Fin ti ops fin T M W listed m

section
variable {call : Nat → List Value → Mem → Option (Value × Mem)} {ops : List Oper} {A : List Nat} {pl : Plan} {N nx fin : Nat} {T : Nat → Tm} {M : Nat → Mem} {V : Nat → Value} {W : Nat → Bool}
  (C : Ctx P ti call ops A pl N nx fin T M V W) {ρ0 ρ : Rn} {m0 m : Mem} {w0 w : World} {a0 a : Act} {listed : Array Bool} {t : Tm}
include C

theorem kd_load_pure {o : Op} {t : Tm} {m m' : Mem} {v : Value} (hk : kd ti o = .load ∨ kd ti o = .look) (h : opD ti call o t m = some (v, m')) : m' = m := by
  clear C
  cases o <;> first | (simp [kd] at hk; done) | skip
  case load ty x =>
    simp only [opD, Option.bind_eq_bind, Option.bind_eq_some_iff] at h
    obtain ⟨⟨b, off⟩, ha, i, hi, u, hl, h⟩ := h
    cases h; rfl
  case slice ty x lo hi mx =>
    simp only [opD, Option.bind_eq_bind, Option.bind_eq_some_iff] at h
    obtain ⟨i, hi', h⟩ := h
    split at h
    · split at h
      · simp only [Option.bind_eq_some_iff] at h
        obtain ⟨l, hl, hh, hhh, ⟨ty', n, cs⟩, hb, ie, hie, h⟩ := h
        split at h <;> cases h
        rfl
      · split at h
        · simp only [Option.bind_eq_some_iff] at h
          obtain ⟨l, hl, hh, hhh, q, hq, h⟩ := h
          split at h <;> cases h
          rfl
        · cases h
    · split at h
      · simp only [Option.bind_eq_some_iff] at h
        obtain ⟨l, hl, hh, hhh, h⟩ := h
        split at h <;> cases h
        rfl
      · split at h
        · simp only [Option.bind_eq_some_iff] at h
          obtain ⟨l, hl, hh, hhh, q, hq, h⟩ := h
          split at h <;> cases h
          rfl
        · cases h
    · cases h
  case convert s d x =>
    simp only [kd] at hk
    cases hi : ti.get d with
    | none => simp [hi] at hk
    | some i =>
      simp only [hi] at hk
      cases hd : i.d <;> simp [hd] at hk
  case call c =>
    obtain ⟨cal, args, at'⟩ := c
    cases cal <;> first | (simp [kd] at hk; done) | skip
    rename_i b
    cases b <;> simp [kd] at hk

omit C in
theorem isAlloc_chain {o : Oper} (h : isAlloc o.op = true) : isChain ti o = true := by
  unfold isAlloc at h
  split at h
  · rename_i ty hop; simp [isChain, hop, kd]
  · rename_i ty n ps hop; simp [isChain, hop, kd]
  · rename_i ty a b hop; simp [isChain, hop, kd]
  · cases h

theorem Ctx.rows {i r : Nat} (hr : posOf i pl.early nx = some r) (hw : W i = true) : ∃ o el l k, ops[i]? = some o ∧ rowOf ti o.op (T i) = some (el, l, k) := by
  obtain ⟨_, _, g⟩ := posOf_spec hr
  obtain ⟨o, ho, _⟩ := C.early i (List.mem_of_getElem? g)
  have h := C.tr.run i o ho (by simpa using hw)
  simp only [Nat.zero_add, opR, hr] at h
  obtain ⟨el, l, k, h1, _⟩ := allocAt_spec h
  exact ⟨o, el, l, k, ho, h1⟩

/-- no step but a store's or the chain's turns the memory -/
theorem Ctx.still {i : Nat} {o : Oper} (ho : ops[i]? = some o) (hc : isChain ti o = false) (hs : isStore ti o = false) : M (i + 1) = M i := by
  cases hw : W i with
  | false =>
    have := (C.tr.not i o ho (by simpa using hw)).2
    simpa using this
  | true =>
    have h := C.tr.run i o ho (by simpa using hw)
    simp only [Nat.zero_add] at h
    have hne : posOf i pl.early nx = none := by
      cases hp : posOf i pl.early nx with
      | none => rfl
      | some r =>
        obtain ⟨_, _, h3⟩ := posOf_spec hp
        obtain ⟨o', ho', hop⟩ := C.early i (List.mem_of_getElem? h3)
        rw [ho] at ho'; cases ho'
        rw [isAlloc_chain hop] at hc; cases hc
    simp only [opR, hne] at h
    cases hk : kd ti o.op with
    | pure => exact (opD_pure hk h).1
    | load => exact kd_load_pure C (.inl hk) h
    | look => exact kd_load_pure C (.inr hk) h
    | chain => simp [isChain, hk] at hc
    | store => simp [isStore, hk] at hs

theorem Ctx.stillTo : ∀ (j i : Nat), i ≤ j → j ≤ ops.length → (∀ k o, i ≤ k → k < j → ops[k]? = some o → isChain ti o = false ∧ isStore ti o = false) → M j = M i
  | 0, i, h, _, _ => by rw [Nat.le_zero.1 h]
  | j + 1, i, h, hj, hall => by
    rcases Nat.lt_or_ge j i with hlt | hge
    · rw [show i = j + 1 by omega]
    · have ho := List.getElem?_eq_getElem (l := ops) (i := j) (by omega)
      have := hall j _ hge (by omega) ho
      rw [C.still ho this.1 this.2]
      exact Ctx.stillTo j i hge (by omega) fun k o h1 h2 => hall k o h1 (by omega)
end
end Go.Ab

namespace Go.Ab
variable {P : Program} {ti : Tr TI}

theorem on_set {listed : Array Bool} {i : Nat} (hi : i < listed.size) (j : Nat) : On (listed.setIfInBounds i true) j ↔ On listed j ∨ j = i := by
  unfold On
  by_cases e : j = i
  · subst e; simp [hi]
  · have e' : i ≠ j := fun h => e h.symm
    simp [Array.getElem?_setIfInBounds_ne e', e]

section
variable {call : Nat → List Value → Mem → Option (Value × Mem)} {ops : List Oper} {A : List Nat} {pl : Plan} {N nx fin : Nat} {T : Nat → Tm} {M : Nat → Mem} {V : Nat → Value} {W : Nat → Bool}
  {ρ0 ρ ρ' : Rn} {m0 m m' : Mem} {w0 w w' : World} {a0 a : Act} {listed : Array Bool} {t : Tm} {i : Nat} {o : Oper} {p : Nat}

/-! ### a step keeps it -/
theorem Mid.pass (h : Mid ti ops pl nx T M W w0 listed w ρ m i) (hi : i < listed.size) (hm : m' = M (i + 1)) (he : Ext ρ m w ρ' m' w') (hea : ∀ i r, posOf i pl.early nx = some r → W i = true → ∃ o el l k, ops[i]? = some o ∧ rowOf ti o.op (T i) = some (el, l, k)) :
    Mid ti ops pl nx T M W w0 (listed.setIfInBounds i true) w' ρ' m' (i + 1) where
  below c hc hlt := (on_set hi c).2 (by
    rcases Nat.lt_or_ge c i with h1 | h1
    · exact .inl (h.below c hc h1)
    · exact .inr (by omega))
  mem := hm
  ahead j hj hc hon := h.ahead j (by omega) hc (((on_set hi j).1 hon).resolve_right (by omega))
  pend j r o el l k hj hp ho hop hon hw := (h.pend j r o el l k (by omega) hp ho hop (((on_set hi j).1 hon).resolve_right (by omega)) hw).stay he
  dist j k r q L K hj hk hjk hr hq hoj hok hwj hwk hL hK := by
    have hoj' := ((on_set hi j).1 hoj).resolve_right (by omega)
    have hok' := ((on_set hi k).1 hok).resolve_right (by omega)
    obtain ⟨oj, tj, lj, kj, e1, e2⟩ := hea j r hr hwj
    obtain ⟨ok, tk, lk, kk, f1, f2⟩ := hea k q hq hwk
    obtain ⟨L1, hL1, _⟩ := h.pend j r oj tj lj kj (by omega) hr e1 e2 hoj' hwj
    obtain ⟨K1, hK1, _⟩ := h.pend k q ok tk lk kk (by omega) hq f1 f2 hok' hwk
    have a1 := he.le _ _ hL1
    have a2 := he.le _ _ hK1
    rw [hL] at a1; cases a1
    rw [hK] at a2; cases a2
    exact h.dist j k r q L K (by omega) (by omega) hjk hr hq hoj' hok' hwj hwk hL1 hK1

/-- one more is listed, that is none of the chain's in turn -/
theorem Mid.grow (h : Mid ti ops pl nx T M W w0 listed w ρ m p) (hi : i < listed.size) (hch : ChainAt ti ops i → p ≤ i → i ∈ pl.early)
    (hp : ∀ (r : Nat) (o : Oper) (el : Nat) (l : List Value) (k : Option Nat), p ≤ i → posOf i pl.early nx = some r → ops[i]? = some o → rowOf ti o.op (T i) = some (el, l, k) → W i = true → Pend ti ρ w0 w m el l r)
    (hd : ∀ (j r q : Nat) (L K : Loc), p ≤ i → p ≤ j → j ≠ i → posOf i pl.early nx = some r → posOf j pl.early nx = some q → On listed j → W i = true → W j = true → ρ r = some L → ρ q = some K → L.blk ≠ K.blk) :
    Mid ti ops pl nx T M W w0 (listed.setIfInBounds i true) w ρ m p where
  below c hc hlt := (on_set hi c).2 (.inl (h.below c hc hlt))
  mem := h.mem
  ahead j hj hc hon := by
    rcases (on_set hi j).1 hon with h1 | rfl
    · exact h.ahead j hj hc h1
    · exact hch hc hj
  pend j r o el l k hj hpp ho hop hon hw := by
    rcases (on_set hi j).1 hon with h1 | rfl
    · exact h.pend j r o el l k hj hpp ho hop h1 hw
    · exact hp r o el l k hj hpp ho hop hw
  dist j k r q L K hj hk hjk hr hq hoj hok hwj hwk hL hK := by
    rcases (on_set hi j).1 hoj with h1 | rfl <;> rcases (on_set hi k).1 hok with h2 | rfl
    · exact h.dist j k r q L K hj hk hjk hr hq h1 h2 hwj hwk hL hK
    · exact fun e => hd j q r K L hk hj hjk hq hr h1 hwk hwj hK hL e.symm
    · exact hd k r q L K hj hk (fun e => hjk e.symm) hr hq h2 hwj hwk hL hK
    · exact (hjk rfl).elim

theorem Mid.stay (h : Mid ti ops pl nx T M W w0 listed w ρ m p) (he : Ext ρ m w ρ' m w') (hea : ∀ i r, posOf i pl.early nx = some r → W i = true → ∃ o el l k, ops[i]? = some o ∧ rowOf ti o.op (T i) = some (el, l, k)) : Mid ti ops pl nx T M W w0 listed w' ρ' m p where
  below := h.below
  mem := h.mem
  ahead := h.ahead
  pend j r o el l k hj hp ho hop hon hw := (h.pend j r o el l k hj hp ho hop hon hw).stay he
  dist j k r q L K hj hk hjk hr hq hoj hok hwj hwk hL hK := by
    obtain ⟨oj, tj, lj, kj, e1, e2⟩ := hea j r hr hwj
    obtain ⟨ok, tk, lk, kk, f1, f2⟩ := hea k q hq hwk
    obtain ⟨L1, hL1, _⟩ := h.pend j r oj tj lj kj hj hr e1 e2 hoj hwj
    obtain ⟨K1, hK1, _⟩ := h.pend k q ok tk lk kk hk hq f1 f2 hok hwk
    have a1 := he.le _ _ hL1
    have a2 := he.le _ _ hK1
    rw [hL] at a1; cases a1
    rw [hK] at a2; cases a2
    exact h.dist j k r q L K hj hk hjk hr hq hoj hok hwj hwk hL1 hK1

variable (C : Ctx P ti call ops A pl N nx fin T M V W)
include C

theorem Inv.on_of_bef (I : Inv ti ops pl nx T V ρ0 m0 w0 a0 listed a w ρ m t) (ho : ops[i]? = some o) (hdeps : ∀ d ∈ deps o, On listed d) {j : Nat} (hb : bef A j i = true) : On listed j := bef_on C.anc I.closed i o ho hdeps j hb

theorem Inv.on_bef (I : Inv ti ops pl nx T V ρ0 m0 w0 a0 listed a w ρ m t) (ho : ops[i]? = some o) (hon : On listed i) {j : Nat} (hb : bef A j i = true) : On listed j := bef_on C.anc I.closed i o ho (fun d hd => I.closed i o ho hon d hd) j hb

theorem Inv.looks (I : Inv ti ops pl nx T V ρ0 m0 w0 a0 listed a w ρ m t) (ho : ops[i]? = some o) (hno : ¬ On listed i) (hdeps : ∀ d ∈ deps o, On listed d) {x : Nat} (hx : x ∈ looks ops o) : t.get x = (T i).get x := by
  have hil : i ≤ ops.length := Nat.le_of_lt (List.getElem?_eq_some_iff.1 ho).1
  by_cases hw : ∃ (j : Nat) (q : Oper), ops[j]? = some q ∧ q.dst = some x ∧ j ≠ i
  · obtain ⟨j, q, hq, hqx, hji⟩ := hw
    rcases C.look i o ho x hx j q hq hqx with h | h | h
    · exact (hji h.symm).elim
    · rw [I.new j q x hq (I.on_of_bef C ho hdeps h) hqx, C.tr.get_new C.ok C.low C.sw hq hqx i (bef_lt C.anc i o ho j h) hil]
    · have hlt := bef_lt C.anc j q hq i h
      have hnj : ¬ On listed j := fun hj => hno (I.on_bef C hq hj h)
      rw [I.old x fun k ok hk hon hkx => hnj (C.sw k j ok q x hk hq hkx hqx ▸ hon), C.tr.get_old C.ok C.low x i hil fun k ok hki hk hkx => by
        have := C.sw k j ok q x hk hq hkx hqx
        omega]
  · have huniq : ∀ (k : Nat) (ok : Oper), ops[k]? = some ok → ok.dst = some x → k = i := fun k ok hk hkx => Decidable.byContradiction fun hc => hw ⟨k, ok, hk, hkx, hc⟩
    rw [I.old x fun k ok hk hon hkx => hno (huniq k ok hk hkx ▸ hon), C.tr.get_old C.ok C.low x i hil fun k ok hki hk hkx => by
      have := huniq k ok hk hkx
      omega]

theorem Inv.evs (I : Inv ti ops pl nx T V ρ0 m0 w0 a0 listed a w ρ m t) (ho : ops[i]? = some o) (hno : ¬ On listed i) (hdeps : ∀ d ∈ deps o, On listed d) {x : Operand} (hx : x ∈ o.op.operands.toList) : ev t x = ev (T i) x := by
  cases x with
  | tmp k =>
    have : k ∈ Ab.looks ops o := by
      simp only [Ab.looks, List.mem_append, List.mem_filterMap]
      exact .inl ⟨_, hx, rfl⟩
    simp only [ev, I.looks C ho hno hdeps this]
  | _ => rfl

theorem Inv.want (I : Inv ti ops pl nx T V ρ0 m0 w0 a0 listed a w ρ m t) (ho : ops[i]? = some o) (hno : ¬ On listed i) (hdeps : ∀ d ∈ deps o, On listed d) : wantD ops o.guard t = some (W i) := by
  have h := C.tr.want i o ho
  simp only [Nat.zero_add] at h
  rw [← h]
  cases hg : o.guard with
  | none => rfl
  | some q =>
    obtain ⟨g, b⟩ := q
    unfold wantD
    cases hog : ops[g]? with
    | none => simp only [hog]
    | some og =>
      cases hd : og.dst with
      | none => simp only [hog, hd]
      | some d =>
        have : d ∈ Ab.looks ops o := by
          simp only [Ab.looks, List.mem_append]
          right
          simp [gtmp, hg, hog, hd]
        simp only [hog, hd, I.looks C ho hno hdeps this]

theorem Inv.step (I : Inv ti ops pl nx T V ρ0 m0 w0 a0 listed a w ρ m t) (ho : ops[i]? = some o) (hno : ¬ On listed i) (hdeps : ∀ d ∈ deps o, On listed d) (hN : N ≤ a0.tmps.size) {v' : Value} (hv : VR ρ' (V i) v') (hle : Le ρ ρ')
    (hrel : Rel ti ρ' m' w') (hext : Ext ρ0 m0 w0 ρ' m' w') (hnx : nx + pl.early.length ≤ m'.nx) (hold : ∀ j r, j ≠ i → posOf j pl.early nx = some r → ρ r = none → ρ' r = none) :
    Inv ti ops pl nx T V ρ0 m0 w0 a0 (listed.setIfInBounds i true) (a.put o.dst v') w' ρ' m' (putT t o.dst (V i)) := by
  have hil : i < ops.length := (List.getElem?_eq_some_iff.1 ho).1
  have hi : i < listed.size := by rw [I.size]; exact hil
  have hg := putT_get C.ok C.low ho t (V i)
  have hokk : opOk N o = true := by
    have := C.ok
    rw [List.all_eq_true] at this
    exact this o (List.mem_of_getElem? ho)
  simp only [opOk, Bool.and_eq_true] at hokk
  refine ⟨by simp [I.size], fun j q hq hon d hd => ?_, fun j q x hq hon hx => ?_, fun x hx => ?_, ?_, hrel, hext, by rw [put_size, I.asz], by rw [put_defers, I.adf], hnx, fun j r hr hnj => ?_⟩
  · rw [on_set hi] at hon ⊢
    rcases hon with h | rfl
    · exact .inl (I.closed j q hq h d hd)
    · rw [ho] at hq; cases hq
      exact .inl (hdeps d hd)
  · rw [hg]
    rcases (on_set hi j).1 hon with h | rfl
    · by_cases e : o.dst = some x
      · have := C.sw j i q o x hq ho hx e
        exact (hno (this ▸ h)).elim
      · rw [if_neg e]; exact I.new j q x hq h hx
    · rw [ho] at hq; cases hq
      rw [if_pos hx]
  · rw [hg, if_neg (hx i o ho ((on_set hi i).2 (.inr rfl)))]
    exact I.old x fun j q hq hon => hx j q hq ((on_set hi j).2 (.inl hon))
  · exact (I.or.mono hle).put hokk.2 (by rw [I.asz]; exact hN) C.low hv
  · have hj : ¬ On listed j := fun h => hnj ((on_set hi j).2 (.inl h))
    have hji : j ≠ i := fun e => hnj ((on_set hi j).2 (.inr e))
    exact hold j r hji hr (I.notyet j r hr hj)

/-- the text goes on as far as its next operation of the chain that is not listed -/
theorem Inv.finish (hw0 : nx = m0.nx) (I : Inv ti ops pl nx T V ρ0 m0 w0 a0 listed a w ρ m t) (hns : ∀ s, StoreAt ti ops s → ¬ On listed s) : ∀ (d p : Nat) (m : Mem), fin - p = d → p ≤ fin → Inv ti ops pl nx T V ρ0 m0 w0 a0 listed a w ρ m t → Mid ti ops pl nx T M W w0 listed w ρ m p →
    ∃ m', Inv ti ops pl nx T V ρ0 m0 w0 a0 listed a w ρ m' t ∧ At ti ops pl nx fin T M W w0 listed w ρ m' := by
  intro d
  induction d with
  | zero =>
    intro p m hd hp I H
    have e : p = fin := by omega
    subst e
    refine ⟨m, I, .inr ⟨fun c hc => H.below c hc (C.finUp c hc), ?_, fun b ty n c hb => ?_⟩⟩
    · rw [H.mem]; exact Over.refl fun s hs => hns s hs.1.1 hs.2
    · rw [← H.mem] at hb
      obtain ⟨L, _, _, cur, e, fz, _, hC⟩ := I.rel.there b _ hb
      exact ⟨I.rel.low b (by simp [hb]), hC.low⟩
  | succ d ih =>
    intro p m hd hp I H
    have hpl : p < ops.length := Nat.lt_of_lt_of_le (by omega) C.finLe
    have ho := List.getElem?_eq_getElem hpl
    generalize ops[p] = q at ho
    have hnext : ∀ m', m' = M (p + 1) → Inv ti ops pl nx T V ρ0 m0 w0 a0 listed a w ρ m' t → (ChainAt ti ops p → On listed p) → (∀ k, Live ρ m' k → Live ρ m k ∨ ∃ r L, posOf p pl.early nx = some r ∧ W p = true ∧ ρ r = some L ∧ k = L.blk) →
        ∃ m', Inv ti ops pl nx T V ρ0 m0 w0 a0 listed a w ρ m' t ∧ At ti ops pl nx fin T M W w0 listed w ρ m' := fun m' hm' I' hpon hlive => by
      refine ih (p + 1) m' (by omega) (by omega) I' ⟨fun c hc hlt => ?_, hm', fun j hj => H.ahead j (by omega), fun j r o el l k hj hr hoj hop hon hw => ?_, fun j k r q L K hj hk => H.dist j k r q L K (by omega) (by omega)⟩
      · rcases Nat.lt_or_ge c p with h1 | h1
        · exact H.below c hc h1
        · have : c = p := by omega
          subst this; exact hpon hc
      · obtain ⟨L, b1, b2, b3, b5, b6, b7, b8⟩ := H.pend j r o el l k (by omega) hr hoj hop hon hw
        refine ⟨L, b1, b2, b3, b5, b6, b7, fun hl => ?_⟩
        rcases hlive _ hl with h | ⟨r', L', hr', hwp, hL', hk⟩
        · exact b8 h
        · by_cases hpc : ChainAt ti ops p
          · exact H.dist j p r r' L L' (by omega) (Nat.le_refl _) (by omega) hr hr' hon (hpon hpc) hw hwp b1 hL' hk
          · obtain ⟨_, _, g⟩ := posOf_spec hr'
            obtain ⟨o', e1, e2⟩ := C.early p (List.mem_of_getElem? g)
            exact hpc ⟨o', e1, isAlloc_chain e2⟩
    by_cases hc : isChain ti q = true
    · have hcp : ChainAt ti ops p := ⟨q, ho, hc⟩
      by_cases hon : On listed p
      · have hea := H.ahead p (Nat.le_refl _) hcp hon
        cases hw : W p with
        | false =>
          have := (C.tr.not p q ho (by simpa using hw)).2
          simp only [Nat.zero_add] at this
          exact hnext m (by rw [this]; exact H.mem) I (fun _ => hon) fun k hk => .inl hk
        | true =>
          have hrun := C.tr.run p q ho (by simpa using hw)
          simp only [Nat.zero_add] at hrun
          cases hpos : posOf p pl.early nx with
          | none => exact (posOf_none hpos hea).elim
          | some r =>
            simp only [opR, hpos] at hrun
            rw [← H.mem] at hrun
            obtain ⟨el, l, k, hrow, _⟩ := allocAt_spec hrun
            have hP := H.pend p r q el l k (Nat.le_refl _) hpos ho hrow hon hw
            obtain ⟨g1, g2, g3, g4⟩ := hP.live I.rel I.ext hrow hrun
            exact hnext (M (p + 1)) rfl ⟨I.size, I.closed, I.new, I.old, I.or, g1, g2, I.asz, I.adf, by rw [g3]; exact I.mnx, I.notyet⟩ (fun _ => hon) fun k hk => (g4 k hk).imp id fun ⟨L, h1, h2⟩ => ⟨r, L, hpos, hw, h1, h2⟩
      · exact ⟨m, I, .inl ⟨p, hcp, hon, H⟩⟩
    · have hs : isStore ti q = false := by
        refine Bool.eq_false_iff.2 fun hs => ?_
        have hf := C.finAt (by omega)
        have := bef_lt C.anc p q ho _ (C.store p (fin - 1) ⟨q, ho, hs⟩ hf)
        have e : p ≠ fin - 1 := fun e => by
          obtain ⟨o', h1, h2⟩ := hf
          rw [← e, ho] at h1; cases h1
          exact hc h2
        omega
      have := C.still ho (by simpa using hc) hs
      exact hnext m (by rw [this]; exact H.mem) I (fun ⟨o', h1, h2⟩ => by rw [ho] at h1; cases h1; exact (hc h2).elim) fun k hk => .inl hk
end
end Go.Ab

namespace Go.Ab
variable {P : Program} {ti : Tr TI}

section
variable {call : Nat → List Value → Mem → Option (Value × Mem)} {ops : List Oper} {A : List Nat} {pl : Plan} {N nx fin : Nat} {T : Nat → Tm} {M : Nat → Mem} {V : Nat → Value} {W : Nat → Bool}
  {ρ0 ρ ρ' : Rn} {m0 m m' : Mem} {w0 w w' : World} {a0 a : Act} {listed : Array Bool} {t : Tm} {i : Nat} {o : Oper} {p : Nat}

/-- where the walk of a region stands -/
def Stand (ti : Tr TI) (ops : List Oper) (pl : Plan) (nx fin : Nat) (T : Nat → Tm) (M : Nat → Mem) (V : Nat → Value) (W : Nat → Bool) (ρ0 : Rn) (m0 : Mem) (w0 : World) (a0 : Act) (listed : Array Bool) (a : Act) (w : World) : Prop :=
  ∃ ρ m t, Inv ti ops pl nx T V ρ0 m0 w0 a0 listed a w ρ m t ∧ At ti ops pl nx fin T M W w0 listed w ρ m

variable (C : Ctx P ti call ops A pl N nx fin T M V W)
include C

theorem Ctx.noStore (I : Inv ti ops pl nx T V ρ0 m0 w0 a0 listed a w ρ m t) {c : Nat} (hc : ChainAt ti ops c) (hno : ¬ On listed c) : ∀ s, StoreAt ti ops s → ¬ On listed s := fun s hs hon => by
  obtain ⟨o, ho, h⟩ := hs
  exact hno (I.on_bef C ho hon (C.store s c ⟨o, ho, h⟩ hc))

/-- the chain's operations behind the first that is not listed are rows ahead of their turn -/
theorem Ctx.behind {c : Nat} (I : Inv ti ops pl nx T V ρ0 m0 w0 a0 listed a w ρ m t) (ho : ops[i]? = some o) (hdeps : ∀ d ∈ deps o, On listed d) (hc : ChainAt ti ops c) (hno : ¬ On listed c) (hi : ChainAt ti ops i) (hlt : c < i) : i ∈ pl.early := by
  rcases C.chain c i hc hi hlt with h | h
  · exact (hno (I.on_of_bef C ho hdeps h)).elim
  · exact h

/-- an operation that leaves the memory alone, or is not wanted -/
theorem At.quiet (I : Inv ti ops pl nx T V ρ0 m0 w0 a0 listed a w ρ m t) (hw0 : nx = m0.nx) (hat : At ti ops pl nx fin T M W w0 listed w ρ m) (ho : ops[i]? = some o) (hno : ¬ On listed i) (hdeps : ∀ d ∈ deps o, On listed d)
    (hq : W i = false ∨ (¬ ChainAt ti ops i ∧ ¬ StoreAt ti ops i)) (he : Ext ρ m w ρ' m w') {a' : Act} {t' : Tm} (I' : Inv ti ops pl nx T V ρ0 m0 w0 a0 (listed.setIfInBounds i true) a' w' ρ' m t') :
    Stand ti ops pl nx fin T M V W ρ0 m0 w0 a0 (listed.setIfInBounds i true) a' w' := by
  have hil : i < ops.length := (List.getElem?_eq_some_iff.1 ho).1
  have hi : i < listed.size := by rw [I.size]; exact hil
  rcases hat with ⟨c, hc, hnc, H⟩ | F
  · have hns := C.noStore I hc hnc
    have hns' : ∀ s, StoreAt ti ops s → ¬ On (listed.setIfInBounds i true) s := fun s hs hon => by
      rcases (on_set hi s).1 hon with h | rfl
      · exact hns s hs h
      · obtain ⟨q, hq1, hq2⟩ := hs
        exact hnc (I.on_of_bef C hq1 (by rw [ho] at hq1; cases hq1; exact hdeps) (C.store _ c ⟨q, hq1, hq2⟩ hc))
    have hcf := C.finUp c hc
    by_cases e : i = c
    · subst e
      have hw : W i = false := by
        rcases hq with h | ⟨h, _⟩
        · exact h
        · exact (h hc).elim
      have hmm := (C.tr.not i o ho (by simpa using hw)).2
      simp only [Nat.zero_add] at hmm
      obtain ⟨m'', h1, h2⟩ := I'.finish C hw0 hns' (fin - (i + 1)) (i + 1) m rfl hcf I' (H.pass hi (by rw [hmm]; exact H.mem) he fun _ _ => C.rows)
      exact ⟨ρ', m'', t', h1, h2⟩
    · have H' := (H.stay he fun _ _ => C.rows).grow hi (fun hci hci' => C.behind I ho hdeps hc hnc hci (by omega)) (fun r o' el l k _ hr ho' hop hw => by
          rcases hq with h | ⟨h, _⟩
          · rw [h] at hw; cases hw
          · obtain ⟨_, _, g⟩ := posOf_spec hr
            obtain ⟨o', e1, e2⟩ := C.early i (List.mem_of_getElem? g)
            exact (h ⟨o', e1, isAlloc_chain e2⟩).elim) (fun j r q L K _ _ _ hr _ _ hw => by
          rcases hq with h | ⟨h, _⟩
          · rw [h] at hw; cases hw
          · obtain ⟨_, _, g⟩ := posOf_spec hr
            obtain ⟨o', e1, e2⟩ := C.early i (List.mem_of_getElem? g)
            exact (h ⟨o', e1, isAlloc_chain e2⟩).elim)
      obtain ⟨m'', h1, h2⟩ := I'.finish C hw0 hns' (fin - c) c m rfl (Nat.le_of_lt hcf) I' H'
      exact ⟨ρ', m'', t', h1, h2⟩
  · refine ⟨ρ', m, t', I', .inr ⟨fun c hc => (on_set hi c).2 (.inl (F.all c hc)), F.over.congr fun s => ?_, F.lows⟩⟩
    rw [on_set hi]
    constructor
    · rintro ⟨h, h1 | rfl⟩
      · exact ⟨h, h1⟩
      · rcases hq with h2 | ⟨_, h2⟩
        · rw [h2] at h; cases h.2
        · exact (h2 h.1).elim
    · rintro ⟨h, h1⟩; exact ⟨h, .inl h1⟩

omit C in
theorem load_parts {o : Op} {t : Tm} {m m' : Mem} {v : Value} (hk : kd ti o = .load) (h : opD ti call o t m = some (v, m')) : ∃ ty x b off i, o = .load ty x ∧ addrOf (ev t x) = some (b, off) ∧ ti.get ty = some i ∧ m.load b off i.size i.agg = some v := by
  cases o <;> first | (simp [kd] at hk; done) | skip
  case load ty x =>
    simp only [opD, Option.bind_eq_bind, Option.bind_eq_some_iff] at h
    obtain ⟨⟨b, off⟩, ha, i, hi, u, hl, h⟩ := h
    cases h
    exact ⟨ty, x, b, off, i, rfl, ha, hi, hl⟩
  case convert s d x =>
    simp only [kd] at hk
    cases hi : ti.get d with
    | none => simp [hi] at hk
    | some i =>
      simp only [hi] at hk
      cases hd : i.d <;> simp [hd] at hk
  case call c =>
    obtain ⟨cal, args, at'⟩ := c
    cases cal <;> first | (simp [kd] at hk; done) | skip
    rename_i b
    cases b <;> simp [kd] at hk

omit C in
theorem look_parts {o : Op} (hk : kd ti o = .look) : ∃ ty x lo hi mx, o = .slice ty x lo hi mx := by
  cases o <;> first | (simp [kd] at hk; done) | skip
  case slice ty x lo hi mx => exact ⟨ty, x, lo, hi, mx, rfl⟩
  case convert s d x =>
    simp only [kd] at hk
    cases hi : ti.get d with
    | none => simp [hi] at hk
    | some i =>
      simp only [hi] at hk
      cases hd : i.d <;> simp [hd] at hk
  case call c =>
    obtain ⟨cal, args, at'⟩ := c
    cases cal <;> first | (simp [kd] at hk; done) | skip
    rename_i b
    cases b <;> simp [kd] at hk

omit C in
/-- a slice's expression asks of the memory what type a row has -/
theorem slice_over {ty : TypeId} {x : Operand} {lo hi mx : Option Operand} {t : Tm} {m m1 m2 : Mem} {v : Value} (h : opD ti call (.slice ty x lo hi mx) t m = some (v, m1))
    (hc : ∀ b ty n c, m.cells b = some (ty, n, c) → ∃ c', m2.cells b = some (ty, n, c')) : ∃ m3, opD ti call (.slice ty x lo hi mx) t m2 = some (v, m3) := by
  simp only [opD, Option.bind_eq_bind, Option.bind_eq_some_iff] at h
  obtain ⟨i, hi', h⟩ := h
  split at h
  · rename_i el sz b off len c hd ha
    split at h
    · simp only [Option.bind_eq_some_iff] at h
      obtain ⟨l, hl, hh, hhh, ⟨ty', n, cs⟩, hb, ie, hie, h⟩ := h
      obtain ⟨c', hb'⟩ := hc _ _ _ _ hb
      split at h
      · rename_i hq
        obtain ⟨q1, q2, q3, q4, q5⟩ := hq
        subst q3; subst q4
        cases h
        exact ⟨m2, by simp [opD, hi', hd, ha, hl, hhh, hb', hie, q1, q2, q5]⟩
      · cases h
    · split at h
      · simp only [Option.bind_eq_some_iff] at h
        obtain ⟨l, hl, hh, hhh, q, hq, h⟩ := h
        split at h
        · rename_i hz
          cases h
          exact ⟨m2, by simp [opD, hi', hd, ha, hl, hhh, hq, hz]⟩
        · cases h
      · cases h
  · rename_i el sz len c hd ha
    split at h
    · simp only [Option.bind_eq_some_iff] at h
      obtain ⟨l, hl, hh, hhh, h⟩ := h
      split at h
      · rename_i hz
        cases h
        exact ⟨m2, by simp [opD, hi', hd, ha, hl, hhh, hz]⟩
      · cases h
    · split at h
      · simp only [Option.bind_eq_some_iff] at h
        obtain ⟨l, hl, hh, hhh, q, hq, h⟩ := h
        split at h
        · rename_i hz
          cases h
          exact ⟨m2, by simp [opD, hi', hd, ha, hl, hhh, hq, hz]⟩
        · cases h
      · cases h
  · cases h

/-- a wanted store: what it comes to in the text -/
theorem Ctx.storeRun {s : Nat} {o : Oper} (ho : ops[s]? = some o) (hs : isStore ti o = true) (hw : W s = true) : ∃ ty a x i b off vs, o.op = .store ty a x ∧ addrOf (ev (T s) a) = some (b, off) ∧ ti.get ty = some i ∧ cellsOf (ev (T s) x) = some vs ∧ vs.length = i.size ∧
    (M s).store b off vs = some (M (s + 1)) ∧ V s = undefV ∧ stv ops T s = (b, off, vs) ∧ rangeOf ti o.op (T s) = some (rng (stv ops T s)) := by
  have h := C.tr.run s o ho (by simpa using hw)
  simp only [Nat.zero_add] at h
  have hne : posOf s pl.early nx = none := by
    cases hp : posOf s pl.early nx with
    | none => rfl
    | some r =>
      obtain ⟨_, _, h3⟩ := posOf_spec hp
      obtain ⟨o', ho', hop⟩ := C.early s (List.mem_of_getElem? h3)
      rw [ho] at ho'; cases ho'
      have := isAlloc_chain (ti := ti) hop
      simp only [isChain, isStore, beq_iff_eq] at this hs
      rw [this] at hs; cases hs
  simp only [opR, hne] at h
  have hk : kd ti o.op = .store := by simpa [isStore] using hs
  generalize hop : o.op = op at *
  cases op <;> first | (simp [kd] at hk; done) | skip
  case store ty a x =>
    simp only [opD, Option.bind_eq_bind, Option.bind_eq_some_iff] at h
    obtain ⟨⟨b, off⟩, ha, i, hi, vs, hvs, h⟩ := h
    split at h
    · rename_i hlen
      simp only [Option.bind_eq_some_iff] at h
      obtain ⟨m1, hm, h⟩ := h
      simp only [Option.pure_def, Option.some.injEq, Prod.mk.injEq] at h
      obtain ⟨hV, hM⟩ := h
      rw [hM] at hm
      have hst : stv ops T s = (b, off, vs) := by simp [stv, ho, hop, ha, hvs]
      exact ⟨ty, a, x, i, b, off, vs, rfl, ha, hi, hvs, hlen, hm, hV.symm, hst, by rw [hst]; simp [rangeOf, ha, hi, rng, hlen]⟩
    · cases h
  case convert s d x =>
    simp only [kd] at hk
    cases hi : ti.get d with
    | none => simp [hi] at hk
    | some i =>
      simp only [hi] at hk
      cases hd : i.d <;> simp [hd] at hk
  case call c =>
    obtain ⟨cal, args, at'⟩ := c
    cases cal <;> first | (simp [kd] at hk; done) | skip
    rename_i b
    cases b <;> simp [kd] at hk
end
end Go.Ab

namespace Go.Ab
variable {P : Program} {ti : Tr TI}

section
variable {call : Nat → List Value → Mem → Option (Value × Mem)} {ops : List Oper} {A : List Nat} {pl : Plan} {N nx fin : Nat} {T : Nat → Tm} {M : Nat → Mem} {V : Nat → Value} {W : Nat → Bool}
  {ρ0 ρ ρ' : Rn} {m0 m m' : Mem} {w0 w w' : World} {a0 a : Act} {listed : Array Bool} {t : Tm} {i : Nat} {o : Oper} {p : Nat}

theorem store_cells {b off : Nat} {vs : List Value} (h : m.store b off vs = some m') : ∃ ty n c, m.cells b = some (ty, n, c) ∧ off + vs.length ≤ n := by
  unfold Mem.store at h
  simp only [Option.bind_eq_bind, Option.bind_eq_some_iff] at h
  obtain ⟨⟨ty, n, c⟩, hc, h⟩ := h
  split at h
  · rename_i hle; exact ⟨ty, n, c, hc, hle⟩
  · cases h

variable (C : Ctx P ti call ops A pl N nx fin T M V W)
include C

theorem Ctx.storeFin {s : Nat} (hs : StoreAt ti ops s) : fin ≤ s := by
  rcases Nat.eq_zero_or_pos fin with h | h
  · omega
  · obtain ⟨o, ho, hs⟩ := hs
    have := bef_lt C.anc s o ho _ (C.store s (fin - 1) ⟨o, ho, hs⟩ (C.finAt h))
    omega

theorem Ctx.apartS {s s' : Nat} (hs : StoreAt ti ops s) (hw : W s = true) (hs' : StoreAt ti ops s') (hw' : W s' = true) (hne : s ≠ s') : apartR (rng (stv ops T s)) (rng (stv ops T s')) = true := by
  obtain ⟨o, ho, h1⟩ := hs
  obtain ⟨o', ho', h1'⟩ := hs'
  obtain ⟨_, _, _, _, _, _, _, _, _, _, _, _, _, _, _, e1⟩ := C.storeRun ho h1 hw
  obtain ⟨_, _, _, _, _, _, _, _, _, _, _, _, _, _, _, e2⟩ := C.storeRun ho' h1' hw'
  rcases C.pair s s' o ho (.inl h1) ⟨o', ho', h1'⟩ hne with ⟨h, _⟩ | h
  · rw [h1] at h; cases h
  · exact C.pr s s' o o' _ _ h ho ho' hw hw' e1 e2

/-- a store into a memory that stands over another -/
theorem Ctx.overStore {S : Nat → Prop} {mm : Mem} (hlows : ∀ (b ty n : Nat) (c : Tr Value), (M fin).h.get b = some (.cells ty n c) → b + 1 < 2 ^ Tr.deep ∧ n + 1 < 2 ^ Tr.deep) (hO : Over S (stv ops T) mm (M fin)) {S' : Nat → Prop} (hO' : Over S' (stv ops T) (M i) (M fin))
    (ho : ops[i]? = some o) (hs : isStore ti o = true) (hw : W i = true) (hS : ∀ s, S s → StoreAt ti ops s ∧ W s = true ∧ s ≠ i) :
    ∃ m', mm.store (stv ops T i).1 (stv ops T i).2.1 (stv ops T i).2.2 = some m' ∧ Over (fun x => S x ∨ x = i) (stv ops T) m' (M fin) := by
  obtain ⟨ty, a, x, ii, b, off, vs, e1, e2, e3, e4, e5, e6, e7, e8, e9⟩ := C.storeRun ho hs hw
  obtain ⟨tb, n, c, hc, hle⟩ := store_cells e6
  obtain ⟨c', hc'⟩ := (Over.refl (S := fun _ => False) (st := stv ops T) (m := M fin) fun _ h => h).cells hO' hc
  have hb := Mem.cells_spec hc'
  obtain ⟨l1, l2⟩ := hlows b tb n c' hb
  refine hO.store (s := i) ?_ (by rw [e8]; exact l1) (by rw [e8]; exact hb) (by rw [e8]; exact hle) fun s' hs' => ?_
  · rw [e8]; simp only; omega
  · obtain ⟨h1, h2, h3⟩ := hS s' hs'
    exact C.apartS ⟨o, ho, hs⟩ hw h1 h2 (fun e => h3 e.symm)

theorem Ctx.textOver (hlows : ∀ (b ty n : Nat) (c : Tr Value), (M fin).h.get b = some (.cells ty n c) → b + 1 < 2 ^ Tr.deep ∧ n + 1 < 2 ^ Tr.deep) : ∀ j, fin ≤ j → j ≤ ops.length →
    Over (fun s => (StoreAt ti ops s ∧ W s = true) ∧ s < j) (stv ops T) (M j) (M fin)
  | 0, h, _ => by
    have e : fin = 0 := by omega
    subst e
    exact Over.refl fun s hs => by omega
  | j + 1, h, hj => by
    by_cases e : fin = j + 1
    · rw [← e]
      exact Over.refl fun s hs => by
        have := C.storeFin hs.1.1
        omega
    · have ih := Ctx.textOver hlows j (by omega) (by omega)
      have ho := List.getElem?_eq_getElem (l := ops) (i := j) (by omega)
      generalize ops[j] = q at ho
      have hnc : isChain ti q = false := Bool.eq_false_iff.2 fun hc => by
        have := C.finUp j ⟨q, ho, hc⟩
        omega
      by_cases hs : isStore ti q = true ∧ W j = true
      · obtain ⟨m', h1, h2⟩ := C.overStore hlows ih ih ho hs.1 hs.2 fun s hs => ⟨hs.1.1, hs.1.2, by omega⟩
        obtain ⟨ty, a, x, ii, b, off, vs, e1, e2, e3, e4, e5, e6, e7, e8, e9⟩ := C.storeRun ho hs.1 hs.2
        rw [e8] at h1
        simp only at h1
        rw [e6] at h1
        cases h1
        refine h2.congr fun s => ⟨fun hh => ?_, fun hh => ?_⟩
        · rcases Nat.lt_or_ge s j with hl | hl
          · exact .inl ⟨hh.1, hl⟩
          · exact .inr (by omega)
        · rcases hh with hh | rfl
          · exact ⟨hh.1, by omega⟩
          · exact ⟨⟨⟨q, ho, hs.1⟩, hs.2⟩, by omega⟩
      · have hM : M (j + 1) = M j := by
          cases hw : W j with
          | false => simpa using (C.tr.not j q ho (by simpa using hw)).2
          | true => exact C.still ho hnc (by simpa [hw] using hs)
        rw [hM]
        refine ih.congr fun s => ⟨fun hh => ⟨hh.1, ?_⟩, fun hh => ⟨hh.1, by omega⟩⟩
        refine Nat.lt_of_le_of_ne (by omega) fun e => ?_
        subst e
        obtain ⟨⟨⟨q', hq', h1⟩, h2⟩, _⟩ := hh
        rw [ho] at hq'; cases hq'
        exact hs ⟨h1, h2⟩

/-- what an operation that reads comes to, whenever its turn comes -/
theorem Ctx.readNow (I : Inv ti ops pl nx T V ρ0 m0 w0 a0 listed a w ρ m t) (hat : At ti ops pl nx fin T M W w0 listed w ρ m) (ho : ops[i]? = some o) (hno : ¬ On listed i) (hdeps : ∀ d ∈ deps o, On listed d) (hw : W i = true)
    (hk : kd ti o.op = .load ∨ kd ti o.op = .look) : opD ti call o.op t m = some (V i, m) := by
  have hread : isRead ti o = true := by rcases hk with h | h <;> simp [isRead, h]
  have hil : i < ops.length := (List.getElem?_eq_some_iff.1 ho).1
  have hnc : ¬ ChainAt ti ops i := fun ⟨q, hq, h⟩ => by
    rw [ho] at hq; cases hq
    rcases hk with h' | h' <;> simp [isChain, h'] at h
  have hns : ¬ StoreAt ti ops i := fun ⟨q, hq, h⟩ => by
    rw [ho] at hq; cases hq
    rcases hk with h' | h' <;> simp [isStore, h'] at h
  have htext : opD ti call o.op (T i) (M i) = some (V i, M (i + 1)) := by
    have h := C.tr.run i o ho (by simpa using hw)
    simp only [Nat.zero_add] at h
    have hne : posOf i pl.early nx = none := by
      cases hp : posOf i pl.early nx with
      | none => rfl
      | some r =>
        obtain ⟨_, _, h3⟩ := posOf_spec hp
        obtain ⟨o', ho', hop⟩ := C.early i (List.mem_of_getElem? h3)
        exact (hnc ⟨o', ho', isAlloc_chain hop⟩).elim
    simpa [opR, hne] using h
  have hcongr : opD ti call o.op t m = opD ti call o.op (T i) m := opD_congr _ fun x hx => I.evs C ho hno hdeps hx
  rw [hcongr]
  suffices h : ∃ m', opD ti call o.op (T i) m = some (V i, m') by
    obtain ⟨m', h⟩ := h
    rw [h, kd_load_pure C hk h]
  have hbefno : ∀ j, ChainAt ti ops j → On listed j → bef A i j = false := fun j ⟨q, hq, _⟩ hon => Bool.eq_false_iff.2 fun hb => hno (I.on_bef C hq hon hb)
  rcases hat with ⟨c, hc, hncc, H⟩ | F
  · rw [H.mem]
    rcases C.reC i c o ho hread hc (Bool.eq_false_iff.2 fun hb => hncc (I.on_of_bef C ho hdeps hb)) (fun j hj hlt => hbefno j hj (H.below j hj hlt)) with ⟨h1, h2⟩ | h
    · have hcl : c ≤ ops.length := by
        obtain ⟨q, hq, _⟩ := hc
        exact Nat.le_of_lt (List.getElem?_eq_some_iff.1 hq).1
      have hM : M c = M i := C.stillTo c i h1 hcl fun k q hk1 hk2 hq => by
        refine ⟨Bool.eq_false_iff.2 fun hch => h2 k ⟨q, hq, hch⟩ ⟨hk1, hk2⟩, Bool.eq_false_iff.2 fun hst => ?_⟩
        have := bef_lt C.anc k q hq c (C.store k c ⟨q, hq, hst⟩ hc)
        omega
      exact ⟨_, by rw [hM]; exact htext⟩
    · exact C.re c i o h ho hw
  · -- the chain is done
    have hX : ∃ (X : Mem) (S' : Nat → Prop) (mx : Mem), opD ti call o.op (T i) X = some (V i, mx) ∧ Over S' (stv ops T) X (M fin) ∧ (∀ s, S' s → StoreAt ti ops s ∧ W s = true) ∧ ∀ s, StoreAt ti ops s → W s = true → (bef A s i = true → S' s) ∧ (bef A i s = true → ¬ S' s) := by
      by_cases hall : ∀ j, ChainAt ti ops j → j < i
      · have hfi : fin ≤ i := by
          rcases Nat.eq_zero_or_pos fin with h | h
          · omega
          · have := hall _ (C.finAt h); omega
        refine ⟨M i, _, _, htext, C.textOver F.lows i hfi (Nat.le_of_lt hil), fun s h => h.1, fun s hs hws => ⟨fun hb => ⟨⟨hs, hws⟩, bef_lt C.anc i o ho s hb⟩, fun hb hss => ?_⟩⟩
        obtain ⟨q, hq, _⟩ := hs
        have := bef_lt C.anc s q hq i hb
        omega
      · rcases C.reF i o ho hread (fun j hj => hbefno j hj (F.all j hj)) with h | h
        · exact (hall h).elim
        · obtain ⟨m', hm'⟩ := C.re fin i o h ho hw
          refine ⟨M fin, fun _ => False, m', hm', Over.refl fun _ h => h, fun s h => h.elim, fun s hs hws => ⟨fun hb => ?_, fun _ h => h⟩⟩
          have hsi := bef_lt C.anc i o ho s hb
          exact hall fun j hj => by
            obtain ⟨q, hq, hst⟩ := hs
            have := bef_lt C.anc s q hq j (C.store s j ⟨q, hq, hst⟩ hj)
            omega
    obtain ⟨X, S', mx, hX1, hX2, hX4, hX3⟩ := hX
    rcases hk with hk | hk
    · obtain ⟨ty, x, b, off, ii, e1, e2, e3, e4⟩ := load_parts hk hX1
      have hz : ii.agg = false → ii.size = 1 := fun hag => by
        obtain ⟨TT⟩ := C.hT ty ii e3
        have := TT.zk
        unfold zkB at this
        split at this
        · rw [hag] at this; cases this
        · cases this
        · simp [hag] at this; exact this
      have hl := F.over.load hX2 hz e4 fun s hs => by
        have hsw : StoreAt ti ops s ∧ W s = true := by
          rcases hs with ⟨h, _⟩ | ⟨h, h2⟩
          · exact h.1
          · exact hX4 s h
        obtain ⟨q, hq, hqs⟩ := hsw.1
        have his : i ≠ s := fun e => hns (e ▸ hsw.1)
        obtain ⟨f1, f2⟩ := hX3 s hsw.1 hsw.2
        rcases C.pair i s o ho (.inr hk) hsw.1 his with ⟨_, h | h⟩ | h
        · have hon := I.on_of_bef C ho hdeps h
          have hS' := f1 h
          rcases hs with ⟨_, h2⟩ | ⟨_, h2⟩
          · exact (h2 hS').elim
          · exact (h2 ⟨hsw, hon⟩).elim
        · have hnon : ¬ On listed s := fun hon => hno (I.on_bef C hq hon h)
          rcases hs with ⟨h2, _⟩ | ⟨h2, _⟩
          · exact (hnon h2.2).elim
          · exact (f2 h h2).elim
        · obtain ⟨_, _, _, _, _, _, _, _, _, _, _, _, _, _, _, e9⟩ := C.storeRun hq hqs hsw.2
          exact C.pr i s o q _ _ h ho hq hw hsw.2 (by simp [e1, rangeOf, e2, e3]) e9
      exact ⟨m, by rw [e1]; simp [opD, e2, e3, hl]⟩
    · obtain ⟨ty, x, lo, hi, mxx, e1⟩ := look_parts hk
      rw [e1] at hX1 ⊢
      exact slice_over hX1 fun b ty n c hc => F.over.cells hX2 hc
end
end Go.Ab

namespace Go.Ab
variable {P : Program} {ti : Tr TI}

section
variable {call : Nat → List Value → Mem → Option (Value × Mem)} {ops : List Oper} {A : List Nat} {pl : Plan} {N nx fin : Nat} {T : Nat → Tm} {M : Nat → Mem} {V : Nat → Value} {W : Nat → Bool}
  {ρ0 ρ ρ' : Rn} {m0 m m' : Mem} {w0 w w' : World} {a0 a : Act} {listed : Array Bool} {t : Tm} {i : Nat} {o : Oper} {p : Nat}

theorem Pend.kept {el : Nat} {l : List Value} {r : Nat} (hp : Pend ti ρ w0 w m el l r) (hle : Le ρ ρ') (hk : ∀ k, k < w.heap.size → w'.heap[k]? = w.heap[k]?) (hl : ∀ k, Live ρ' m k → Live ρ m k) : Pend ti ρ' w0 w' m el l r := by
  obtain ⟨L, hL, hoff, hsz, hes, hsiz, hcell, hdead⟩ := hp
  have hlt : L.blk < w.heap.size := (Array.getElem?_eq_some_iff.1 hcell).1
  exact ⟨L, hle _ _ hL, hoff, hsz, hes, hsiz, by rw [hk _ hlt]; exact hcell, fun h => hdead (hl _ h)⟩

theorem Mid.made (h : Mid ti ops pl nx T M W w0 listed w ρ m p) (hle : Le ρ ρ') (hk : ∀ k, k < w.heap.size → w'.heap[k]? = w.heap[k]?) (hl : ∀ k, Live ρ' m k → Live ρ m k)
    (hea : ∀ i r, posOf i pl.early nx = some r → W i = true → ∃ o el l k, ops[i]? = some o ∧ rowOf ti o.op (T i) = some (el, l, k)) : Mid ti ops pl nx T M W w0 listed w' ρ' m p where
  below := h.below
  mem := h.mem
  ahead := h.ahead
  pend j r o el l k hj hp ho hop hon hw := (h.pend j r o el l k hj hp ho hop hon hw).kept hle hk hl
  dist j k r q L K hj hk hjk hr hq hoj hok hwj hwk hL hK := by
    obtain ⟨oj, tj, lj, kj, e1, e2⟩ := hea j r hr hwj
    obtain ⟨ok, tk, lk, kk, f1, f2⟩ := hea k q hq hwk
    obtain ⟨L1, hL1, _⟩ := h.pend j r oj tj lj kj hj hr e1 e2 hoj hwj
    obtain ⟨K1, hK1, _⟩ := h.pend k q ok tk lk kk hk hq f1 f2 hok hwk
    have a1 := hle _ _ hL1
    have a2 := hle _ _ hK1
    rw [hL] at a1; cases a1
    rw [hK] at a2; cases a2
    exact h.dist j k r q L K hj hk hjk hr hq hoj hok hwj hwk hL1 hK1

variable (C : Ctx P ti call ops A pl N nx fin T M V W)
include C

theorem Ctx.step_ok (hw0 : nx = m0.nx) (hN : N ≤ a0.tmps.size) {Q : Exit → Act → World → Prop} (I : Inv ti ops pl nx T V ρ0 m0 w0 a0 listed a w ρ m t) (hat : At ti ops pl nx fin T M W w0 listed w ρ m) (ho : ops[i]? = some o) (hno : ¬ On listed i) (hdeps : ∀ d ∈ deps o, On listed d) :
    wpOp P ops.toArray Q i (Stand ti ops pl nx fin T M V W ρ0 m0 w0 a0 (listed.setIfInBounds i true)) a w := by
  have hwant := wantD_spec (I.want C ho hno hdeps) I.or
  have hil : i < ops.length := (List.getElem?_eq_some_iff.1 ho).1
  have hi : i < listed.size := by rw [I.size]; exact hil
  have hokk : opOk N o = true := by
    have := C.ok
    rw [List.all_eq_true] at this
    exact this o (List.mem_of_getElem? ho)
  simp only [opOk, Bool.and_eq_true] at hokk
  have hoa : ops.toArray[i]? = some o := by simpa using ho
  have hcongr : ∀ mm, opD ti call o.op t mm = opD ti call o.op (T i) mm := fun mm => opD_congr _ fun x hx => I.evs C ho hno hdeps hx
  unfold wpOp
  simp only [hoa]
  cases hw : W i with
  | false =>
    rw [if_neg (by rw [hwant, hw]; simp)]
    have hV : V i = undefV := by
      have := (C.tr.not i o ho (by simpa using hw)).1
      simpa using this
    have hv : VR ρ (V i) undef := by rw [hV]; exact .undef ρ
    exact At.quiet C I hw0 hat ho hno hdeps (.inl hw) (.refl _ _ _) (I.step C ho hno hdeps hN hv (.refl _) I.rel I.ext I.mnx fun _ _ _ _ h => h)
  | true =>
    rw [if_pos (by rw [hwant, hw])]
    refine .inl ?_
    have htext := C.tr.run i o ho (by simpa using hw)
    simp only [Nat.zero_add] at htext
    have hold : ∀ {ρ' : Rn} {m' : Mem} {w' : World}, Ext ρ m w ρ' m' w' → ∀ j r, j ≠ i → posOf j pl.early nx = some r → ρ r = none → ρ' r = none := fun he j r _ hr h0 => by
      obtain ⟨_, h2, _⟩ := posOf_spec hr
      rw [he.old r (Nat.lt_of_lt_of_le h2 I.mnx)]; exact h0
    by_cases hq : isChain ti o = false ∧ isStore ti o = false
    · have hnc : ¬ ChainAt ti ops i := fun ⟨q, h1, h2⟩ => by rw [ho] at h1; cases h1; rw [hq.1] at h2; cases h2
      have hns : ¬ StoreAt ti ops i := fun ⟨q, h1, h2⟩ => by rw [ho] at h1; cases h1; rw [hq.2] at h2; cases h2
      have hrun : opD ti call o.op t m = some (V i, m) := by
        cases hk : kd ti o.op with
        | load => exact C.readNow I hat ho hno hdeps hw (.inl hk)
        | look => exact C.readNow I hat ho hno hdeps hw (.inr hk)
        | chain => simp [isChain, hk] at hq
        | store => simp [isStore, hk] at hq
        | pure =>
          have hne : posOf i pl.early nx = none := by
            cases hp : posOf i pl.early nx with
            | none => rfl
            | some r =>
              obtain ⟨_, _, h3⟩ := posOf_spec hp
              obtain ⟨o', ho', hop⟩ := C.early i (List.mem_of_getElem? h3)
              exact (hnc ⟨o', ho', isAlloc_chain hop⟩).elim
          simp only [opR, hne] at htext
          rw [hcongr]
          exact (opD_pure hk htext).2 m
      refine wp_of_sim (opD_sim C.hT I.or I.rel C.cs rfl hokk.1 hrun) fun ρ' v' w' g1 g2 g3 => ?_
      exact At.quiet C I hw0 hat ho hno hdeps (.inr ⟨hnc, hns⟩) g3 (I.step C ho hno hdeps hN g1 g3.le g2 (I.ext.trans g3) I.mnx (hold g3))
    · by_cases hch : isChain ti o = true
      · have hci : ChainAt ti ops i := ⟨o, ho, hch⟩
        rcases hat with ⟨c, hc, hncc, H⟩ | F
        case inr => exact (hno (F.all i hci)).elim
        have hcle : c ≤ i := by
          rcases Nat.lt_or_ge i c with h | h
          · exact (hno (H.below i hci h)).elim
          · exact h
        have hns := C.noStore I hc hncc
        have hns' : ∀ s, StoreAt ti ops s → ¬ On (listed.setIfInBounds i true) s := fun s hs hon => by
          rcases (on_set hi s).1 hon with h | rfl
          · exact hns s hs h
          · obtain ⟨q, hq1, hq2⟩ := hs
            rw [ho] at hq1; cases hq1
            simp only [isChain, beq_iff_eq] at hch
            simp [isStore, hch] at hq2
        have hcf := C.finUp c hc
        cases hpos : posOf i pl.early nx with
        | none =>
          have e : c = i := by
            rcases Nat.lt_or_ge c i with h | h
            · exact (posOf_none hpos (C.behind I ho hdeps hc hncc hci h)).elim
            · omega
          subst e
          simp only [opR, hpos] at htext
          rw [← H.mem, ← hcongr] at htext
          refine wp_of_sim (opD_sim C.hT I.or I.rel C.cs rfl hokk.1 htext) fun ρ' v' w' g1 g2 g3 => ?_
          have I' := I.step C ho hno hdeps hN g1 g3.le g2 (I.ext.trans g3) (Nat.le_trans I.mnx g3.nx) (hold g3)
          obtain ⟨m'', h1, h2⟩ := I'.finish C hw0 hns' (fin - (c + 1)) (c + 1) _ rfl hcf I' (H.pass hi rfl g3 fun _ _ => C.rows)
          exact ⟨ρ', m'', _, h1, h2⟩
        | some r =>
          obtain ⟨p1, p2, p3⟩ := posOf_spec hpos
          have hie := List.mem_of_getElem? p3
          simp only [opR, hpos] at htext
          obtain ⟨el, l, k, hrow, _, _, hcl, hVi, _⟩ := allocAt_spec htext
          have hrowt : rowOf ti o.op t = some (el, l, k) := by rw [← hrow]; exact rowOf_congr fun x hx => I.evs C ho hno hdeps hx
          have hfree := I.notyet i r hpos hno
          obtain ⟨ρ', w', v', L, k1, hvr0, k2, k3, k4, k5, k6, k7, k8, k9, k10⟩ := Pend.make (P := P) (O := o) (e := a.eval) C.hT I.rel I.ext I.or hokk.1 hrowt hcl hfree (by omega) (Nat.lt_of_lt_of_le p2 I.mnx)
          have hle : Le ρ ρ' := fun b K hb => by
            rw [k3 b (fun e => by rw [e, hfree] at hb; cases hb)]; exact hb
          have hvr : VR ρ' (V i) v' := by
            rw [hVi]; exact hvr0
          have hinj : ∀ j q, j ≠ i → posOf j pl.early nx = some q → q ≠ r := fun j q hj hq e => by
            subst e
            obtain ⟨_, _, g3⟩ := posOf_spec hq
            rw [p3] at g3; cases g3
            exact hj rfl
          have I' := I.step C ho hno hdeps hN hvr hle k5 k6 I.mnx fun j q hj hq h0 => by rw [k3 q (hinj j q hj hq)]; exact h0
          have H' := (H.made hle k9 k10 fun _ _ => C.rows).grow hi (fun _ _ => hie) (fun r' o'' el' l' k' _ hr' ho'' hop'' _ => by
              rw [hpos] at hr'; cases hr'
              rw [ho] at ho''; cases ho''
              rw [hrow] at hop''; cases hop''
              exact k7) fun j r' q K K' _ hj hji hr' hq honj _ hwj hK hK' => by
            rw [hpos] at hr'; cases hr'
            rw [k2] at hK; cases hK
            obtain ⟨oj, tj, lj, kj, e1, e2⟩ := C.rows hq hwj
            obtain ⟨K1, hK1, _, _, _, _, hcell, _⟩ := H.pend j q oj tj lj kj hj hq e1 e2 honj hwj
            have hlt := (Array.getElem?_eq_some_iff.1 hcell).1
            rw [k3 q (hinj j q hji hq), hK1] at hK'; cases hK'
            omega
          unfold Oper.wp
          rw [k1]
          obtain ⟨m'', h1, h2⟩ := I'.finish C hw0 hns' (fin - c) c m rfl (Nat.le_of_lt hcf) I' H'
          exact ⟨ρ', m'', _, h1, h2⟩
      · have hst : isStore ti o = true := by
          cases h1 : isStore ti o with
          | true => rfl
          | false => exact (hq ⟨by simpa using hch, h1⟩).elim
        have hsi : StoreAt ti ops i := ⟨o, ho, hst⟩
        rcases hat with ⟨c, hc, hncc, H⟩ | F
        · exact (hncc (I.on_of_bef C ho hdeps (C.store i c hsi hc))).elim
        · obtain ⟨m', h1, h2⟩ := C.overStore F.lows F.over (C.textOver F.lows i (C.storeFin hsi) (Nat.le_of_lt hil)) ho hst hw fun s hs => ⟨hs.1.1, hs.1.2, fun e => hno (e ▸ hs.2)⟩
          obtain ⟨ty, aa, x, ii, b, off, vs, e1, e2, e3, e4, e5, e6, e7, e8, e9⟩ := C.storeRun ho hst hw
          rw [e8] at h1
          simp only at h1
          have hrun : opD ti call o.op t m = some (undefV, m') := by
            rw [hcongr, e1]
            simp [opD, e2, e3, e4, e5, h1]
          refine wp_of_sim (opD_sim C.hT I.or I.rel C.cs rfl hokk.1 hrun) fun ρ' v' w' g1 g2 g3 => ?_
          refine ⟨ρ', m', _, I.step C ho hno hdeps hN (by rw [e7]; exact g1) g3.le g2 (I.ext.trans g3) (Nat.le_trans I.mnx g3.nx) (hold g3), .inr ⟨fun c hc => (on_set hi c).2 (.inl (F.all c hc)), h2.congr fun s => ?_, F.lows⟩⟩
          rw [on_set hi]
          constructor
          · rintro ⟨hs, h | rfl⟩
            · exact .inl ⟨hs, h⟩
            · exact .inr rfl
          · rintro (⟨hs, h⟩ | rfl)
            · exact ⟨hs, .inl h⟩
            · exact ⟨⟨hsi, hw⟩, .inr rfl⟩

/-- all are listed: the walk stands where the text ends -/
theorem Ctx.ends (I : Inv ti ops pl nx T V ρ0 m0 w0 a0 listed a w ρ m t) (hat : At ti ops pl nx fin T M W w0 listed w ρ m) (hall : ∀ i, i < ops.length → On listed i) :
    OR ρ (T ops.length) a.eval ∧ Rel ti ρ (M ops.length) w ∧ Ext ρ0 m0 w0 ρ (M ops.length) w := by
  rcases hat with ⟨c, ⟨q, hq, _⟩, hncc, H⟩ | F
  · exact (hncc (hall c (List.getElem?_eq_some_iff.1 hq).1)).elim
  · have h1 := C.textOver F.lows ops.length C.finLe (Nat.le_refl _)
    have h2 : Over (fun s => (StoreAt ti ops s ∧ W s = true) ∧ s < ops.length) (stv ops T) m (M fin) := F.over.congr fun s =>
      ⟨fun hh => ⟨hh.1, hall s hh.2⟩, fun hh => ⟨hh.1, by
        obtain ⟨⟨⟨q, hq, _⟩, _⟩, _⟩ := hh
        exact (List.getElem?_eq_some_iff.1 hq).1⟩⟩
    have hS := h2.same h1
    refine ⟨fun x hx => ?_, hS.rel I.rel, hS.ext I.ext⟩
    have h0 := I.or x hx
    cases x with
    | tmp k =>
      simp only [ev] at h0 ⊢
      have : (T ops.length).get k = t.get k := by
        by_cases hk : ∃ (j : Nat) (q : Oper), ops[j]? = some q ∧ q.dst = some k
        · obtain ⟨j, q, hq, hd⟩ := hk
          have hj := (List.getElem?_eq_some_iff.1 hq).1
          rw [C.tr.get_new C.ok C.low C.sw hq hd ops.length hj (Nat.le_refl _), I.new j q k hq (hall j hj) hd]
        · rw [C.tr.get_old C.ok C.low k ops.length (Nat.le_refl _) fun j q _ hq hd => hk ⟨j, q, hq, hd⟩, I.old k fun j q hq _ hd => hk ⟨j, q, hq, hd⟩]
      rw [this]; exact h0
    | _ => exact h0

theorem Ctx.all_or_ready (hsz : listed.size = ops.length) (h : Region.ready .any ops.toArray listed = []) : ∀ j, j < ops.length → On listed j := by
  intro j
  induction j using Nat.strongRecOn with
  | _ j ih =>
    intro hj
    refine Classical.byContradiction fun hc => ?_
    have ho := List.getElem?_eq_getElem hj
    have hd := (ancOk_spec C.anc ho).1
    have hmem : j ∈ Region.ready .any ops.toArray listed := by
      rw [mem_ready]
      have hjl : j < listed.size := by rw [hsz]; exact hj
      refine ⟨?_, ops[j], by simp [hj], fun e he hb => ?_⟩
      · unfold On at hc
        simp [hjl] at hc ⊢
        exact hc
      · have hde : e.on ∈ deps ops[j] := by
          simp only [deps, List.mem_filterMap]
          exact ⟨e, by simpa using he, by simp [hb]⟩
        exact ih e.on (hd _ hde) (Nat.lt_trans (hd _ hde) hj)
    rw [h] at hmem
    cases hmem

theorem Ctx.walk (hw0 : nx = m0.nx) (hN : N ≤ a0.tmps.size) {Q : Exit → Act → World → Prop}
    (hQ : ∀ ρ a w, OR ρ (T ops.length) a.eval → Rel ti ρ (M ops.length) w → Ext ρ0 m0 w0 ρ (M ops.length) w → a.tmps.size = a0.tmps.size → a.defers = a0.defers → Q .normal a w) :
    ∀ (fuel : Nat) (listed : Array Bool) (a : Act) (w : World), listed.toList.countP (· == false) ≤ fuel → Stand ti ops pl nx fin T M V W ρ0 m0 w0 a0 listed a w → wpAny P .any ops.toArray Q fuel listed a w := by
  have hend : ∀ (listed : Array Bool) (a : Act) (w : World), Stand ti ops pl nx fin T M V W ρ0 m0 w0 a0 listed a w → Region.ready .any ops.toArray listed = [] → Q .normal a w := fun listed a w ⟨ρ, m, t, I, hat⟩ h => by
    obtain ⟨h1, h2, h3⟩ := C.ends I hat (C.all_or_ready I.size h)
    exact hQ ρ a w h1 h2 h3 I.asz I.adf
  intro fuel
  induction fuel with
  | zero =>
    intro listed a w hc hs
    have hr : Region.ready .any ops.toArray listed = [] := by
      refine List.eq_nil_iff_forall_not_mem.2 fun j hj => ?_
      rw [mem_ready] at hj
      have h0 : listed.toList.countP (· == false) = 0 := Nat.le_zero.1 hc
      rw [List.countP_eq_zero] at h0
      obtain ⟨h1, o, ho, _⟩ := hj
      obtain ⟨ρ, m, t, I, _⟩ := hs
      have hjl : j < listed.size := by
        rw [I.size]
        have := (Array.getElem?_eq_some_iff.1 ho).1
        simpa using this
      have := h0 listed[j] (by simp)
      simp [hjl] at h1
      simp [h1] at this
    exact ⟨hr, hend listed a w hs hr⟩
  | succ fuel ih =>
    intro listed a w hc hs
    refine ⟨hend listed a w hs, fun j hj => ?_⟩
    obtain ⟨ρ, m, t, I, hat⟩ := hs
    rw [mem_ready] at hj
    obtain ⟨h1, o, ho, hd⟩ := hj
    have hol : ops[j]? = some o := by simpa using ho
    have hjl : j < listed.size := by
      rw [I.size]; exact (List.getElem?_eq_some_iff.1 hol).1
    have hjf : listed[j] = false := by simpa [hjl] using h1
    have hno : ¬ On listed j := by simp [On, hjl, hjf]
    refine wpOp_mono (fun a' w' hs' => ih _ a' w' ?_ hs') (C.step_ok hw0 hN I hat hol hno fun d hdd => ?_)
    · rw [Array.toList_setIfInBounds, List.countP_set (by simpa using hjl)]
      have : listed.toList[j]'(by simpa using hjl) = false := by simpa using hjf
      simp only [this]
      have hpos : 0 < listed.toList.countP (· == false) := List.countP_pos_iff.2 ⟨listed[j], by simp, by simp [hjf]⟩
      rw [if_pos (by decide), if_neg (by decide)]
      omega
    · simp only [deps, List.mem_filterMap] at hdd
      obtain ⟨e, he, heq⟩ := hdd
      split at heq
      · rename_i hb; cases heq; exact hd e (by simpa using he) hb
      · cases heq
end
end Go.Ab

namespace Go.Ab
variable {P : Program} {ti : Tr TI}

/-- values that are the same -/
def eqC : Value → Value → Bool
  | .int j a, .int k b => j == k && a == b
  | .bool a, .bool b => a == b
  | .pointer none, .pointer none => true
  | .pointer (some ⟨a, i, none⟩), .pointer (some ⟨b, j, none⟩) => a == b && i == j
  | .slice none l c, .slice none k d => l == k && c == d
  | .slice (some ⟨a, i, none⟩) l c, .slice (some ⟨b, j, none⟩) k d => a == b && i == j && l == k && c == d
  | .map none, .map none => true
  | .map (some a), .map (some b) => a == b
  | .nilFunc, .nilFunc => true
  | .string a, .string b => a.data.toList == b.data.toList
  | .func (.func f) ⟨[]⟩ ⟨[]⟩, .func (.func g) ⟨[]⟩ ⟨[]⟩ => f == g
  | _, _ => false
def eqV : Value → Value → Bool
  | .agg a, .agg b => all2 eqC a.toList b.toList
  | a, b => eqC a b
theorem eqC_eq {a b : Value} (h : eqC a b = true) : a = b := by
  unfold eqC at h
  split at h
  case h_10 a b => cases a; cases b; simp_all
  all_goals simp_all
theorem all2_eqC : ∀ {l k : List Value}, all2 eqC l k = true → l = k
  | [], [], _ => rfl
  | a :: l, b :: k, h => by
    simp only [all2, Bool.and_eq_true] at h
    rw [eqC_eq h.1, all2_eqC h.2]
  | [], _ :: _, h => by simp [all2] at h
  | _ :: _, [], h => by simp [all2] at h
theorem eqV_eq {a b : Value} (h : eqV a b = true) : a = b := by
  unfold eqV at h
  split at h
  · have := all2_eqC h
    congr 1
    exact Array.ext' this
  · exact eqC_eq h

section
variable (ti : Tr TI) (call : Nat → List Value → Mem → Option (Value × Mem)) (ops : List Oper)
def chkRe (t : Tm) (mp : Mem) (i : Nat) : Bool :=
  match ops[i]? with
  | some o => match wantD ops o.guard t with
    | some true => match opD ti call o.op t mp, o.dst with
      | some (u, _), some d => match t.get d with
        | some v => eqV u v
        | none => false
      | _, _ => false
    | some false => true
    | none => false
  | none => false
def rangeAt (t : Tm) (i : Nat) : Option (Option (Nat × Nat × Nat)) :=
  match ops[i]? with
  | some o => match wantD ops o.guard t with
    | some true => match rangeOf ti o.op t with
      | some r => some (some r)
      | none => none
    | some false => some none
    | none => none
  | none => none
def chkPair (t : Tm) (q : Nat × Nat) : Bool :=
  match rangeAt ti ops t q.1, rangeAt ti ops t q.2 with
  | some (some a), some (some b) => apartR a b
  | some none, some _ => true
  | some _, some none => true
  | _, _ => false
def findM (p : Nat) : List (Nat × Mem) → Option Mem
  | [] => none
  | q :: r => if q.1 = p then some q.2 else findM p r

def regR (pl : Plan) (t : Tm) (m : Mem) : Option (Tm × Mem) := do
  let (t', m', acc) ← opsR ti call ops pl.early m.nx (pl.re.map (·.1)) 0 ops t { m with nx := m.nx + pl.early.length } []
  if (pl.re.all fun q => match findM q.1 acc with | some mp => q.2.all (chkRe ti call ops t' mp) | none => false) && pl.pairs.all (chkPair ti ops t') then some (t', m') else none
end

def rgD (ti : Tr TI) (plans : Nat → Option Plan) (call : Nat → List Value → Mem → Option (Value × Mem)) : RG := fun id ops draw t m =>
  match draw with
  | false => opsD ti call ops ops t m
  | true => match plans id with
    | none => opsD ti call ops ops t m
    | some pl => regR ti call ops pl t m
def plan0 : Plan := ⟨[], [], []⟩
def rkD (ti : Tr TI) (plans : Nat → Option Plan) : Nat → List Oper → Bool → Bool := fun id ops draw =>
  match draw with
  | false => true
  | true => regOk ti ops (ancs ops []) ((plans id).getD plan0)

theorem opsD_opsR {call : Nat → List Value → Mem → Option (Value × Mem)} {ops : List Oper} {nx : Nat} : ∀ (l : List Oper) (k : Nat) (t : Tm) (m : Mem) (acc : List (Nat × Mem)) (r : Tm × Mem), opsD ti call ops l t m = some r → opsR ti call ops [] nx [] k l t m acc = some (r.1, r.2, acc)
  | [], k, t, m, acc, r, h => by
    simp only [opsD, Option.some.injEq] at h
    subst h
    simp [opsR]
  | o :: l, k, t, m, acc, r, h => by
    simp only [opsD, Option.bind_eq_bind, Option.bind_eq_some_iff] at h
    obtain ⟨x, hx, h⟩ := h
    simp only [opsR, hx, Option.bind_eq_bind, Option.bind_some]
    cases x with
    | true =>
      simp only [Option.bind_eq_some_iff] at h
      obtain ⟨⟨v, m1⟩, hv, h⟩ := h
      simp only [opR, posOf, hv, Option.bind_some]
      simpa using opsD_opsR l (k + 1) _ m1 acc r h
    | false => simpa using opsD_opsR l (k + 1) _ m acc r h

/-! ### what the look ahead shows -/
section
variable {ops : List Oper} {A : List Nat} {pl : Plan}
theorem finOf_spec : ∀ (l : List Oper) (k f : Nat), f ≤ k → (∀ (i : Nat) (o : Oper), l[i]? = some o → isChain ti o = true → k + i < finOf ti k l f) ∧ finOf ti k l f ≤ k + l.length ∧ f ≤ finOf ti k l f ∧
    (finOf ti k l f = f ∨ ∃ (i : Nat) (o : Oper), l[i]? = some o ∧ isChain ti o = true ∧ finOf ti k l f = k + i + 1)
  | [], k, f, hf => ⟨by simp, by simpa [finOf] using hf, by simp [finOf], .inl rfl⟩
  | q :: l, k, f, hf => by
    simp only [finOf]
    by_cases hq : isChain ti q = true
    · rw [if_pos hq]
      obtain ⟨h1, h2, h3, h4⟩ := finOf_spec l (k + 1) (k + 1) (Nat.le_refl _)
      refine ⟨fun i o ho hc => ?_, by simp; omega, by omega, .inr ?_⟩
      · cases i with
        | zero => omega
        | succ i => have := h1 i o (by simpa using ho) hc; omega
      · rcases h4 with h4 | ⟨i, o, ho, hc, h4⟩
        · exact ⟨0, q, rfl, hq, by omega⟩
        · exact ⟨i + 1, o, by simpa using ho, hc, by omega⟩
    · rw [if_neg hq]
      obtain ⟨h1, h2, h3, h4⟩ := finOf_spec l (k + 1) f (by omega)
      refine ⟨fun i o ho hc => ?_, by simp; omega, h3, ?_⟩
      · cases i with
        | zero => simp at ho; subst ho; exact (hq hc).elim
        | succ i => have := h1 i o (by simpa using ho) hc; omega
      · rcases h4 with h4 | ⟨i, o, ho, hc, h4⟩
        · exact .inl h4
        · exact .inr ⟨i + 1, o, by simpa using ho, hc, by omega⟩
end
end Go.Ab

namespace Go.Ab
variable {P : Program} {ti : Tr TI}

section
variable {call : Nat → List Value → Mem → Option (Value × Mem)} {ops : List Oper} {A : List Nat} {pl : Plan} {N nx : Nat} {T : Nat → Tm} {M : Nat → Mem} {V : Nat → Value} {W : Nat → Bool}

theorem allAt {α : Type} {p : Nat → α → Bool} {l : List α} (h : allIdx p 0 l = true) {i : Nat} {a : α} (ha : l[i]? = some a) : p i a = true := by
  have := allIdx_get h ha
  rwa [Nat.zero_add] at this
theorem allIdx_of {α : Type} {p : Nat → α → Bool} : ∀ {l : List α} {k : Nat}, (∀ (i : Nat) (a : α), l[i]? = some a → p (k + i) a = true) → allIdx p k l = true
  | [], _, _ => rfl
  | a :: l, k, h => by
    simp only [allIdx, Bool.and_eq_true]
    refine ⟨h 0 a rfl, allIdx_of fun i b hb => ?_⟩
    have := h (i + 1) b (by simpa using hb)
    rwa [show k + (i + 1) = k + 1 + i by omega] at this
theorem allIdx_false {α : Type} {p : Nat → α → Bool} {l : List α} (h : allIdx p 0 l = false) : ∃ (i : Nat) (a : α), l[i]? = some a ∧ p i a = false := by
  refine Classical.byContradiction fun hc => ?_
  have : allIdx p 0 l = true := allIdx_of fun i a ha => by
    rw [Nat.zero_add]
    cases hp : p i a with
    | true => rfl
    | false => exact (hc ⟨i, a, ha, hp⟩).elim
  rw [h] at this; cases this

theorem ctx_of (hT : Types P ti) (hcs : CallSim P ti call) (ok : ops.all (opOk N) = true) (low : N < 2 ^ Tr.deep) (tr : Trace ti call ops pl.early nx 0 ops T M V W) (hr : regOk ti ops A pl = true)
    (re : ∀ (p i : Nat) (o : Oper), reAt pl p i = true → ops[i]? = some o → W i = true → ∃ m', opD ti call o.op (T i) (M p) = some (V i, m'))
    (pr : ∀ (i j : Nat) (oi oj : Oper) ri rj, pairIn pl i j = true → ops[i]? = some oi → ops[j]? = some oj → W i = true → W j = true → rangeOf ti oi.op (T i) = some ri → rangeOf ti oj.op (T j) = some rj → apartR ri rj = true) :
    Ctx P ti call ops A pl N nx (finOf ti 0 ops 0) T M V W := by
  simp only [regOk, Bool.and_eq_true] at hr
  obtain ⟨⟨⟨⟨⟨⟨⟨⟨⟨h1, h2⟩, h3⟩, h4⟩, h5⟩, h6⟩, h7⟩, h8⟩, h9⟩, h10⟩ := hr
  obtain ⟨f1, f2, f3, f4⟩ := finOf_spec (ti := ti) ops 0 0 (Nat.le_refl _)
  simp only [earlyOk, Bool.and_eq_true, List.all_eq_true, Nat.blt_eq] at h6
  refine ⟨hT, hcs, ok, low, tr, h1, fun i j oi oj x hi hj hx hx' => ?_, fun i o ho x hx j q hq hqx => ?_, fun i o g b ho hg => ?_, fun i j ⟨o, ho, hc⟩ ⟨q, hq, hc'⟩ hlt => ?_, fun i hi => ?_, fun s c ⟨o, ho, hs⟩ ⟨q, hq, hc⟩ => ?_,
    fun i c o ho hrd ⟨q, hq, hc⟩ hb hall => ?_, fun i o ho hrd hall => ?_, by simpa using f2, fun c ⟨q, hq, hc⟩ => by simpa using f1 c q hq hc, fun hpos => ?_, fun i j o ho hk ⟨q, hq, hs⟩ hne => ?_, re, pr⟩
  · have := allAt h2 hi
    simp only [hx] at this
    have := allAt this hj
    simp [hx'] at this
    exact this
  · have := allAt h3 ho
    rw [List.all_eq_true] at this
    have := allAt (this x hx) hq
    simp [hqx] at this
    rcases this with (h | h) | h
    · exact .inl h
    · exact .inr (.inl h)
    · exact .inr (.inr h)
  · have := allAt h4 ho
    simpa [hg] using this
  · have := allAt h5 ho
    simp only [hc, Bool.not_true, Bool.false_or] at this
    have := allAt this hq
    simp only [hc', Bool.not_true, Bool.false_or, Bool.or_eq_true, Nat.ble_eq] at this
    rcases this with (h | h) | h
    · omega
    · exact .inl h
    · exact .inr (by simpa using h)
  · have hl := h6.2 i hi
    have ho := List.getElem?_eq_getElem hl
    have := allAt h6.1 ho
    simp [hi] at this
    exact ⟨_, ho, this⟩
  · have := allAt h7 ho
    simp only [hs, Bool.not_true, Bool.false_or] at this
    have := allAt this hq
    simpa [hc] using this
  · have := allAt h8 ho
    simp only [hrd, Bool.not_true, Bool.false_or, Bool.and_eq_true] at this
    have := allAt this.1 hq
    have hmay : mayAt ti ops A c i = true := by
      simp only [mayAt, hb, Bool.not_false, Bool.true_and]
      refine allIdx_of fun j q hq => ?_
      rw [Nat.zero_add]
      by_cases hjc : isChain ti q = true
      · rcases Nat.lt_or_ge j c with hl | hl
        · simp [hall j ⟨q, hq, hjc⟩ hl]
        · simp [hl]
      · simp [hjc]
    simp only [hc, hmay, Bool.not_true, Bool.false_or, Bool.or_eq_true, Bool.and_eq_true, Nat.ble_eq] at this
    rcases this with ⟨h, hn⟩ | h
    · refine .inl ⟨h, fun j ⟨q', hq', hc'⟩ => ?_⟩
      have := allAt hn hq'
      simp only [hc', Bool.not_true, Bool.false_or, Bool.or_eq_true, Nat.ble_eq, Nat.blt_eq] at this
      omega
    · exact .inr h
  · have := allAt h8 ho
    simp only [hrd, Bool.not_true, Bool.false_or, Bool.and_eq_true, Bool.or_eq_true, beq_iff_eq] at this
    rcases this.2 with (h | h) | h
    · refine .inl fun j ⟨q, hq, hc⟩ => ?_
      have := allAt h hq
      simpa [hc] using this
    · obtain ⟨j, q, hq, hf⟩ := allIdx_false h
      simp at hf
      rw [hall j ⟨q, hq, hf.1⟩] at hf
      cases hf.2
    · exact .inr h
  · rcases f4 with h | ⟨i, o, ho, hc, h⟩
    · omega
    · exact ⟨o, by rw [h]; simpa using ho, hc⟩
  · have := allAt h10 ho
    have hkk : (isStore ti o || kd ti o.op == .load) = true := by
      rcases hk with h | h <;> simp [h]
    simp only [hkk, Bool.not_true, Bool.false_or] at this
    have := allAt this hq
    simp [hs, hne] at this
    rcases this with ⟨h, h'⟩ | h
    · exact .inl ⟨h, h'⟩
    · exact .inr h

theorem findM_mem {p : Nat} {mp : Mem} : ∀ {l : List (Nat × Mem)}, findM p l = some mp → (p, mp) ∈ l
  | [], h => by simp [findM] at h
  | q :: l, h => by
    simp only [findM] at h
    split at h
    · rename_i e; cases h; subst e; simp
    · exact List.mem_cons_of_mem _ (findM_mem h)

/-- a look at the end of the text is a look at its own place -/
theorem late2 (ok : ops.all (opOk N) = true) (low : N < 2 ^ Tr.deep) (tr : Trace ti call ops pl.early nx 0 ops T M V W) (sw : ∀ (i j : Nat) (oi oj : Oper) (x : Nat), ops[i]? = some oi → ops[j]? = some oj → oi.dst = some x → oj.dst = some x → i = j)
    {i : Nat} {o : Oper} (ho : ops[i]? = some o) (he : early2 ops i = true) : ∀ x ∈ looks ops o, (T ops.length).get x = (T i).get x := by
  have hil := (List.getElem?_eq_some_iff.1 ho).1
  simp only [early2, ho, List.all_eq_true] at he
  intro x hx
  have h := he x hx
  by_cases hw : ∃ (j : Nat) (q : Oper), ops[j]? = some q ∧ q.dst = some x
  · obtain ⟨j, q, hq, hd⟩ := hw
    have hj := allAt h hq
    simp [hd] at hj
    rw [tr.get_new ok low sw hq hd ops.length (by omega) (Nat.le_refl _), tr.get_new ok low sw hq hd i hj (Nat.le_of_lt hil)]
  · rw [tr.get_old ok low x ops.length (Nat.le_refl _) fun j q _ hq hd => hw ⟨j, q, hq, hd⟩, tr.get_old ok low x i (Nat.le_of_lt hil) fun j q _ hq hd => hw ⟨j, q, hq, hd⟩]

theorem late (ok : ops.all (opOk N) = true) (low : N < 2 ^ Tr.deep) (tr : Trace ti call ops pl.early nx 0 ops T M V W) (sw : ∀ (i j : Nat) (oi oj : Oper) (x : Nat), ops[i]? = some oi → ops[j]? = some oj → oi.dst = some x → oj.dst = some x → i = j)
    {i : Nat} {o : Oper} (ho : ops[i]? = some o) (he : early1 ops i = true) : (∀ x ∈ looks ops o, (T ops.length).get x = (T i).get x) ∧ ∃ d, o.dst = some d ∧ (T ops.length).get d = some (V i) := by
  have hil := (List.getElem?_eq_some_iff.1 ho).1
  simp only [early1, ho, Bool.and_eq_true, List.all_eq_true] at he
  refine ⟨fun x hx => ?_, ?_⟩
  · have h := he.2 x hx
    by_cases hw : ∃ (j : Nat) (q : Oper), ops[j]? = some q ∧ q.dst = some x
    · obtain ⟨j, q, hq, hd⟩ := hw
      have hj := allAt h hq
      simp [hd] at hj
      rw [tr.get_new ok low sw hq hd ops.length (by omega) (Nat.le_refl _), tr.get_new ok low sw hq hd i hj (Nat.le_of_lt hil)]
    · rw [tr.get_old ok low x ops.length (Nat.le_refl _) fun j q _ hq hd => hw ⟨j, q, hq, hd⟩, tr.get_old ok low x i (Nat.le_of_lt hil) fun j q _ hq hd => hw ⟨j, q, hq, hd⟩]
  · obtain ⟨d, hd⟩ := Option.isSome_iff_exists.1 he.1
    exact ⟨d, hd, tr.get_new ok low sw ho hd ops.length hil (Nat.le_refl _)⟩

theorem wantD_congr {o : Oper} {t t' : Tm} (h : ∀ x ∈ looks ops o, t.get x = t'.get x) : wantD ops o.guard t = wantD ops o.guard t' := by
  cases hg : o.guard with
  | none => rfl
  | some q =>
    obtain ⟨g, b⟩ := q
    unfold wantD
    cases hog : ops[g]? with
    | none => simp only [hog]
    | some og =>
      cases hd : og.dst with
      | none => simp only [hog, hd]
      | some d =>
        have : d ∈ looks ops o := by
          simp only [looks, List.mem_append]
          right
          simp [gtmp, hg, hog, hd]
        simp only [hog, hd, h d this]
theorem ev_congr {o : Oper} {t t' : Tm} (h : ∀ x ∈ looks ops o, t.get x = t'.get x) : ∀ x ∈ o.op.operands.toList, ev t x = ev t' x := fun x hx => by
  cases x with
  | tmp k =>
    have : k ∈ looks ops o := by
      simp only [looks, List.mem_append, List.mem_filterMap]
      exact .inl ⟨_, hx, rfl⟩
    simp only [ev, h k this]
  | _ => rfl
theorem rangeOf_congr {o : Op} {t t' : Tm} (h : ∀ x ∈ o.operands.toList, ev t x = ev t' x) : rangeOf ti o t = rangeOf ti o t' := by
  cases o with
  | load ty a => simp only [rangeOf, h a (by simp [Op.operands])]
  | store ty a x => simp only [rangeOf, h a (by simp [Op.operands])]
  | _ => rfl
end

theorem regSim_of (hT : Types P ti) (hm : P.follows .mixedOrders = true) {plans : Nat → Option Plan} {call : Nat → List Value → Mem → Option (Value × Mem)} (hcs : CallSim P ti call) {n : Nat} (hn : n < 2 ^ Tr.deep) : RegSim P ti n (rkD ti plans) (rgD ti plans call) := by
  intro id ops draw t m t' m' h hok hrk ρ a w Q hO hr hs hq
  cases draw with
  | false =>
    simp only [rgD] at h
    refine wp_region_list (by simpa using opsD_wp hT hcs hn ops t m a w ρ t' m' h hO hr hs hok hq)
  | true =>
    simp only [rkD] at hrk
    have hreg : regR ti call ops ((plans id).getD plan0) t m = some (t', m') := by
      simp only [rgD] at h
      cases hp : plans id with
      | some pl => simpa [hp] using h
      | none =>
        rw [hp] at h
        simp only at h
        have hx := opsD_opsR (nx := m.nx) ops 0 t m [] (t', m') h
        have hm' : ({ h := m.h, nx := m.nx } : Mem) = m := rfl
        simp [regR, plan0, hm', hx]
    generalize (plans id).getD plan0 = pl at hrk hreg
    simp only [regR, Option.bind_eq_bind, Option.bind_eq_some_iff] at hreg
    obtain ⟨⟨t1, m1, acc⟩, hrun, hchk⟩ := hreg
    split at hchk
    case isFalse => cases hchk
    rename_i hck
    cases hchk
    obtain ⟨T, M, V, W, tr, b1, b2, b3, b4, b5⟩ := opsR_trace ti call ops pl.early m.nx _ ops 0 _ _ _ _ _ _ hrun
    rw [Nat.zero_add] at b3 b4
    simp only [Bool.and_eq_true, List.all_eq_true] at hck
    have hrk0 := hrk
    simp only [regOk, Bool.and_eq_true] at hrk
    obtain ⟨⟨⟨⟨⟨⟨⟨⟨⟨h1, h2⟩, h3⟩, h4⟩, h5⟩, h6⟩, h7⟩, h8⟩, h9⟩, h10⟩ := hrk
    have sw : ∀ (i j : Nat) (oi oj : Oper) (x : Nat), ops[i]? = some oi → ops[j]? = some oj → oi.dst = some x → oj.dst = some x → i = j := fun i j oi oj x hi hj hx hx' => by
      have := allAt h2 hi
      simp only [hx] at this
      have := allAt this hj
      simp [hx'] at this
      exact this
    simp only [againOk, Bool.and_eq_true, List.all_eq_true] at h9
    have hwant : ∀ {i : Nat} {o : Oper}, ops[i]? = some o → early1 ops i = true → wantD ops o.guard (T ops.length) = some (W i) := fun {i o} ho he => by
      rw [wantD_congr (late hok hn tr sw ho he).1]
      simpa using tr.want i o ho
    have hwant2 : ∀ {i : Nat} {o : Oper}, ops[i]? = some o → early2 ops i = true → wantD ops o.guard (T ops.length) = some (W i) := fun {i o} ho he => by
      rw [wantD_congr (late2 hok hn tr sw ho he)]
      simpa using tr.want i o ho
    have C := ctx_of hT hcs hok hn tr hrk0 (fun p i o hre ho hw => by
        simp only [reAt, List.any_eq_true, Bool.and_eq_true, beq_iff_eq] at hre
        obtain ⟨q, hq, rfl, hqi⟩ := hre
        have hqi : i ∈ q.2 := by simpa using hqi
        have he := h9.1 q hq i hqi
        obtain ⟨l1, d, l2, l3⟩ := late hok hn tr sw ho he
        have hc := hck.1 q hq
        cases hf : findM q.1 acc with
        | none => simp [hf] at hc
        | some mp =>
          simp only [hf, List.all_eq_true] at hc
          have hci := hc i hqi
          have hmp : mp = M q.1 := by
            rcases b5 _ (findM_mem hf) with h | h
            · cases h
            · exact h.2
          rw [← hmp]
          rw [← b3] at hci
          simp only [chkRe, ho, hwant ho he, hw, l2, l3] at hci
          have hcg := opD_congr (ti := ti) (call := call) (m := mp) o.op (ev_congr l1)
          rw [hcg] at hci
          cases hop : opD ti call o.op (T i) mp with
          | none => simp [hop] at hci
          | some r =>
            obtain ⟨u, m2⟩ := r
            simp only [hop, l3] at hci
            exact ⟨m2, by rw [eqV_eq hci]⟩)
      (fun i j oi oj ri rj hp hoi hoj hwi hwj hri hrj => by
        have key : ∀ (i j : Nat) (oi oj : Oper) ri rj, (i, j) ∈ pl.pairs → ops[i]? = some oi → ops[j]? = some oj → W i = true → W j = true → rangeOf ti oi.op (T i) = some ri → rangeOf ti oj.op (T j) = some rj → apartR ri rj = true := fun i j oi oj ri rj hp hoi hoj hwi hwj hri hrj => by
          have he := h9.2 _ hp
          have hc := hck.2 _ hp
          rw [← b3] at hc
          have l1 := late2 hok hn tr sw hoi he.1
          have k1 := late2 hok hn tr sw hoj he.2
          simp only [chkPair, rangeAt, hoi, hoj, hwant2 hoi he.1, hwant2 hoj he.2, hwi, hwj, rangeOf_congr (ti := ti) (ev_congr l1), rangeOf_congr (ti := ti) (ev_congr k1), hri, hrj] at hc
          exact hc
        simp only [pairIn, List.any_eq_true] at hp
        obtain ⟨q, hq, hqq⟩ := hp
        simp at hqq
        rcases hqq with ⟨rfl, rfl⟩ | ⟨rfl, rfl⟩
        · exact key _ _ oi oj ri rj hq hoi hoj hwi hwj hri hrj
        · have := key _ _ oj oi rj ri hq hoj hoi hwj hwi hrj hri
          simp only [apartR, Bool.or_eq_true] at this ⊢
          rcases this with (h | h) | h
          · exact .inl (.inl (by simp at h ⊢; exact fun e => h e.symm))
          · exact .inr h
          · exact .inl (.inr h))
    have hoff : ∀ j, ¬ On (Array.replicate ops.length false) j := fun j h => by
      unfold On at h
      rcases Nat.lt_or_ge j ops.length with hl | hl <;> simp [hl] at h
    have I : Inv ti ops pl m.nx T V ρ m w a (Array.replicate ops.length false) a { w with drawn := w.drawn + 1 } ρ { m with nx := m.nx + pl.early.length } t :=
      ⟨by simp, fun i o _ h => (hoff i h).elim, fun i o x _ h => (hoff i h).elim, fun x _ => by rw [b1], hO,
        ⟨fun b hb => hr.fresh b (by simp only at hb; omega), fun b B hB => (hr.drawn (w.drawn + 1)).there b B hB, hr.inj, hr.glob, hr.low⟩,
        ⟨.refl _, Nat.le_refl _, rfl, rfl, rfl, fun _ _ _ => rfl, fun _ h => .inr h, Nat.le_add_right _ _, fun _ _ => rfl, fun c _ _ h => ⟨c, h⟩⟩, rfl, rfl, Nat.le_refl _,
        fun i r hp _ => hr.fresh r (posOf_spec hp).1⟩
    obtain ⟨m2, I2, hat⟩ := I.finish C rfl (fun s _ => hoff s) (finOf ti 0 ops 0 - 0) 0 _ rfl (Nat.zero_le _) I ⟨fun _ _ h => absurd h (Nat.not_lt_zero _), b2.symm, fun i _ _ h => (hoff i h).elim, fun i r o el l k _ _ _ _ h => (hoff i h).elim, fun i j r q L K _ _ _ _ _ h => (hoff i h).elim⟩
    refine wp_region_any hm ?_
    have := C.walk (Q := Q) (ρ0 := ρ) (m0 := m) (w0 := w) (a0 := a) rfl hs (fun ρ' a' w' k1 k2 k3 k4 k5 => hq a' w' ρ' (by rw [← b3]; exact k1) (by rw [← b4]; exact k2) (by rw [← b4]; exact k3) k4 k5) ops.length (Array.replicate ops.length false) a { w with drawn := w.drawn + 1 }
      (Nat.le_trans List.countP_le_length (by simp)) ⟨ρ, m2, t, I2, hat⟩
    simpa using this
end Go.Ab

namespace Go.Ab

/-- the three operations on atomic words -/
def extD (fS fL fC : Nat) (f : Nat) (args : List Value) (m : Mem) : Option (Value × Mem) :=
  if f = fL then match args with
    | [p] => do
      let (b, off) ← addrOf p
      match ← m.load b off 1 false with
      | .int .u64 n => pure (.int .u64 n, m)
      | _ => none
    | _ => none
  else if f = fS then match args with
    | [p, .int .u64 n] => do
      let (b, off) ← addrOf p
      let m ← m.store b off [.int .u64 n]
      pure (undefV, m)
    | _ => none
  else if f = fC then match args with
    | [p, .int .u64 o, .int .u64 n] => do
      let (b, off) ← addrOf p
      match ← m.load b off 1 false with
      | .int .u64 x => match x == o with
        | true => do
          let m ← m.store b off [.int .u64 n]
          pure (.bool true, m)
        | false => pure (.bool false, m)
      | _ => none
    | _ => none
  else none

def mkPlan (ti : Tr TI) (ops : List Oper) : Plan :=
  let A := ancs ops []
  let ix := ops.zipIdx
  let C := (ix.filter fun p => isChain ti p.1).map (·.2)
  let early := C.filter fun j => (ops[j]?.map (fun o => isAlloc o.op)).getD false && C.any fun i => i < j && !bef A i j
  let fin := finOf ti 0 ops 0
  let R := (ix.filter fun p => isRead ti p.1).map (·.2)
  let S := (ix.filter fun p => isStore ti p.1).map (·.2)
  let L := (ix.filter fun p => kd ti p.1.op == .load).map (·.2)
  let reC := C.map fun c => (c, R.filter fun i => mayAt ti ops A c i && !(Nat.ble i c && noChain ti ops i c))
  let reF := (fin, R.filter fun i => !(C.all (· < i)) && C.all fun j => !bef A i j)
  let pairs := (S.flatMap fun i => (S.filter (i < ·)).map fun j => (i, j)) ++ (L.flatMap fun i => (S.filter fun j => !(bef A i j || bef A j i)).map fun j => (i, j))
  ⟨early, (reC ++ [reF]).filter (fun q => !q.2.isEmpty), pairs⟩
end Go.Ab

namespace Go.Ab
variable {P : Program} {ti : Tr TI} {α : Type}

def ofL : List (Nat × α) → Tr α
  | [] => .e
  | q :: r => (ofL r).put q.1 q.2
theorem ofL_mem : ∀ {l : List (Nat × α)} {k : Nat} {v : α}, (ofL l).get k = some v → (k, v) ∈ l
  | [], k, v, h => by cases h
  | q :: r, k, v, h => by
    simp only [ofL, Tr.put] at h
    by_cases hk : q.1 + 1 < 2 ^ Tr.deep
    · rw [Tr.get_set _ _ _ _ _ hk] at h
      split at h
      · rename_i e; cases h; subst e; simp
      · exact List.mem_cons_of_mem _ (ofL_mem h)
    · rw [Tr.get_set_beyond _ _ _ _ hk] at h
      exact List.mem_cons_of_mem _ (ofL_mem h)

theorem types_of {l : List (Nat × TI)} (he : ofL l = ti) (h : l.all (fun q => tiOk P q.1 q.2) = true) : Types P ti := fun t x hx => by
  rw [← he] at hx
  rw [List.all_eq_true] at h
  exact tiOk_ok (h _ (ofL_mem hx))

def ofFunc (f : Func) : FI := ⟨f.ntmps, f.results.toList, f.body.getD .skip⟩
def fnOf (t : Tr Func) (f : Nat) : Option FI := match t.get f with
  | some g => some (ofFunc g)
  | none => none
def fnOk (ti : Tr TI) (plans : Nat → Nat → Option Plan) (q : Nat × Func) : Bool :=
  q.2.body.isSome && !(q.2.name == "runtime.NumGoroutine") && codeOk q.2.ntmps (rkD ti (plans q.1)) (q.2.body.getD .skip) && Nat.ble (q.2.ntmps + 1) 4096
theorem fns_of {l : List (Nat × Func)} {t : Tr Func} (he : ofL l = t) {plans : Nat → Nat → Option Plan} (hf : ∀ q ∈ l, P.funcs[q.1]? = some q.2) (h : l.all (fnOk ti plans) = true) : FnsOk P (fun f => rkD ti (plans f)) (fnOf t) := fun f fi hfi => by
  unfold fnOf at hfi
  split at hfi
  · rename_i g hg
    cases hfi
    rw [← he] at hg
    have hm := ofL_mem hg
    rw [List.all_eq_true] at h
    have := h _ hm
    simp only [fnOk, Bool.and_eq_true, Nat.ble_eq, Bool.not_eq_true'] at this
    obtain ⟨⟨⟨h1, h2⟩, h3⟩, h4⟩ := this
    obtain ⟨c, hc⟩ := Option.isSome_iff_exists.1 h1
    refine ⟨g, hf _ hm, by simp [ofFunc, hc], rfl, rfl, h2, h3, ?_⟩
    have : (4096 : Nat) < 2 ^ Tr.deep := by decide
    show g.ntmps < _
    omega
  · cases hfi

theorem evF_calls (hT : Types P ti) (hm : P.follows .mixedOrders = true) {plans : Nat → Nat → Option Plan} {fns : Nat → Option FI} {ext : Nat → List Value → Mem → Option (Value × Mem)} {fuel : Nat}
    (hfn : FnsOk P (fun f => rkD ti (plans f)) fns) (hext : ExtSim P ti ext fns) {k f : Nat} {args args' : List Value} {m m' : Mem} {v : Value} {ρ : Rn} {w : World} (h : evF ti (fun f => rgD ti (plans f)) fns ext fuel k f args m = some (v, m'))
    (hf : (fns f).isSome = true) (hV : VRs ρ args args') (hr : Rel ti ρ m w) : Calls P f ⟨args'⟩ w (Post ti ρ m w v m') := by
  obtain ⟨fi, hfi⟩ := Option.isSome_iff_exists.1 hf
  obtain ⟨fn, g1, g2, g3, g4, g5, g6, g7⟩ := hfn f fi hfi
  have hs := evF_sim (fuel := fuel) (rg := fun f => rgD ti (plans f)) hT hfn hext (fun f fi call hf hcs => by
    obtain ⟨_, _, _, _, _, _, _, h7⟩ := hfn f fi hf
    exact regSim_of hT hm hcs h7) k f args m v m' h ρ args' w hV hr
  have hrun : (callFunc f ⟨args'⟩).run P w = .ok (.enter f ⟨args'⟩) w := by
    have g5' : fn.name ≠ "runtime.NumGoroutine" := by simpa using g5
    simp [callFunc, g1, g2, g5']
  rcases hs with ⟨ρ', v', w', _, _, _, h4 | ⟨_, h4⟩⟩ | ⟨f', args1, h1, h2⟩
  · rw [hrun] at h4; cases h4
  · rw [hrun] at h4; cases h4
  · rw [hrun] at h1
    cases h1
    exact h2
end Go.Ab

namespace Go.Ab
variable {P : Program} {ti : Tr TI}

section
variable {ρ : Rn} {m m' : Mem} {w : World}

/-- one cell is written -/
theorem store_one (hr : Rel ti ρ m w) {b off : Nat} {k : IntKind} {n : Int} (h : m.store b off [.int k n] = some m') {L : Loc} (hL : ρ b = some L) :
    (∃ u, w.cell? ⟨L.blk, L.off + off, none⟩ = some u) ∧ w.frozen? ⟨L.blk, L.off + off, none⟩ = false ∧ Rel ti ρ m' (w.setCell ⟨L.blk, L.off + off, none⟩ (.int k n)) ∧ Ext ρ m w ρ m' (w.setCell ⟨L.blk, L.off + off, none⟩ (.int k n)) := by
  have h0 := h
  unfold Mem.store at h
  simp only [Option.bind_eq_bind, Option.bind_eq_some_iff] at h
  obtain ⟨⟨ty, q, c⟩, hc, h⟩ := h
  simp only at h
  split at h
  case isFalse => cases h
  rename_i hle
  cases h
  simp only [List.length_singleton] at hle
  obtain ⟨hes, cur, e, fz, hcur, hC⟩ := hr.row hc hL
  have hfit : L.off + off + 1 ≤ cur.size := by rw [hC.size]; have := hC.fits; omega
  obtain ⟨cur', h2, h3, h4, h5, h6, h7, h8, h9, _⟩ := setCells_heap [.int k n] L.blk (L.off + off) w cur e fz hcur (by simpa using hfit)
  have hset : w.setCells L.blk (L.off + off) [.int k n] = w.setCell ⟨L.blk, L.off + off, none⟩ (.int k n) := rfl
  rw [hset] at h2 h5 h6 h7 h8 h9
  refine ⟨?_, ?_, ?_⟩
  · rw [cell_of_row w _ _ cur e fz hcur, Array.getElem?_eq_getElem (by omega)]; exact ⟨_, rfl⟩
  · rw [frozen_of_row w _ _ cur e fz hcur]
    have := hC.free (L.off + off) (by omega)
    simpa using this
  · refine hr.change (Mem.cells_spec hc) hL h6 h5 h7 h8 h9 ⟨hes, cur', e, fz, h2, hC.low, by rw [h3]; exact hC.size, hC.fits, by rw [h3]; exact hC.ice, fun i v hi hg => ?_⟩ (fun _ c0 e0 z0 h0 => by rw [hcur] at h0; cases h0; exact ⟨_, h2⟩)
    rw [get_lay [.int k n] off c (by have := hC.low; simp; omega) i] at hg
    rw [h4]
    by_cases hin : off ≤ i ∧ i < off + [Value.int k n].length
    · rw [if_pos hin] at hg
      simp only [List.length_singleton] at hin
      have hi0 : i = off := by omega
      subst hi0
      simp at hg
      subst hg
      refine ⟨rfl, .int k n, ?_, .int _ _⟩
      rw [if_pos (by simp)]
      simp
    · rw [if_neg hin] at hg
      simp only [List.length_singleton] at hin
      obtain ⟨h1, v', hv', hVv⟩ := hC.cell i v hi hg
      refine ⟨h1, v', ?_, hVv⟩
      rw [if_neg (by simp; omega)]
      exact hv'

/-- one cell is read -/
theorem load_one (hr : Rel ti ρ m w) {b off : Nat} {k : IntKind} {n : Int} (h : m.load b off 1 false = some (.int k n)) {L : Loc} (hL : ρ b = some L) : w.cell? ⟨L.blk, L.off + off, none⟩ = some (.int k n) := by
  unfold Mem.load at h
  simp only [Option.bind_eq_bind, Option.bind_eq_some_iff] at h
  obtain ⟨⟨ty, q, c⟩, hc, h⟩ := h
  simp only at h
  split at h
  case isFalse => cases h
  rename_i hlt
  obtain ⟨_, cur, e, fz, hcur, hC⟩ := hr.row hc hL
  obtain ⟨_, v', hv', hV⟩ := hC.cell off _ hlt h
  cases hV
  rw [cell_of_row w _ _ cur e fz hcur]
  exact hv'

structure ExtRow (P : Program) (f : FuncId) (e : Array Value → Sem Value) : Prop where
  fn : ∃ fn, P.funcs[f]? = some fn ∧ (fn.name == "runtime.NumGoroutine") = false ∧ fn.body.isNone = true ∧ Extern.findNext fn = none ∧ Extern.find fn = some e

theorem extSim_of {fS fL fC : Nat} {fns : Nat → Option FI} (hS : ExtRow P fS Extern.Atomic.storeT) (hL : ExtRow P fL (Extern.Atomic.loadT (.int .u64))) (hC : ExtRow P fC (Extern.Atomic.casT (.int .u64))) : ExtSim P ti (extD fS fL fC) fns := by
  intro f args m v m' _ h ρ args' w hV hr
  obtain ⟨fnS, s1, s2, s3, s4, s5⟩ := hS.fn
  obtain ⟨fnL, l1, l2, l3, l4, l5⟩ := hL.fn
  obtain ⟨fnC, c1, c2, c3, c4, c5⟩ := hC.fn
  unfold extD at h
  split at h
  · rename_i e
    subst e
    split at h
    case h_2 => cases h
    simp only [Option.bind_eq_bind, Option.bind_eq_some_iff] at h
    obtain ⟨⟨b, off⟩, ha, u, hu, h⟩ := h
    split at h
    case h_2 => cases h
    cases h
    cases hV with
    | cons _ p' _ _ hp hs =>
    cases hs
    obtain ⟨L, hL, rfl⟩ := addrOf_spec ha hp
    exact Runs.pure hr (.int _ _) (run_call_load l1 l2 l3 l4 _ l5 (load_one hr hu hL))
  · split at h
    · rename_i e
      subst e
      split at h
      case h_2 => cases h
      simp only [Option.bind_eq_bind, Option.bind_eq_some_iff] at h
      obtain ⟨⟨b, off⟩, ha, m1, hm, h⟩ := h
      cases h
      cases hV with
      | cons _ p' _ _ hp hs =>
      cases hs with
      | cons _ q' _ _ hq hs =>
      cases hs
      cases hq
      obtain ⟨L, hL, rfl⟩ := addrOf_spec ha hp
      obtain ⟨⟨u, hu⟩, hz, g1, g2⟩ := store_one hr hm hL
      exact ⟨ρ, _, _, .undef ρ, g1, g2, .inl (run_call_store s1 s2 s3 s4 s5 hu hz)⟩
    · split at h
      · rename_i e
        subst e
        split at h
        case h_2 => cases h
        simp only [Option.bind_eq_bind, Option.bind_eq_some_iff] at h
        obtain ⟨⟨b, off⟩, ha, u, hu, h⟩ := h
        split at h
        case h_2 => cases h
        rename_i x
        cases hV with
        | cons _ p' _ _ hp hs =>
        cases hs with
        | cons _ q' _ _ hq hs =>
        cases hs with
        | cons _ r' _ _ hr' hs =>
        cases hs
        cases hq
        cases hr'
        obtain ⟨L, hL, rfl⟩ := addrOf_spec ha hp
        have hc := load_one hr hu hL
        have hz : w.frozen? ⟨L.blk, L.off + off, none⟩ = false := by
          unfold Mem.load at hu
          simp only [Option.bind_eq_bind, Option.bind_eq_some_iff] at hu
          obtain ⟨⟨ty, q, c⟩, hcc, hu⟩ := hu
          simp only at hu
          split at hu
          case isFalse => cases hu
          obtain ⟨_, cur, e, fz, hcur, hC⟩ := hr.row hcc hL
          rw [frozen_of_row w _ _ cur e fz hcur]
          have := hC.free (L.off + off) (by rw [hC.size]; have := hC.fits; omega)
          simpa using this
        split at h
        · rename_i heq
          simp only [beq_iff_eq] at heq
          subst heq
          simp only [Option.bind_eq_some_iff] at h
          obtain ⟨m1, hm, h⟩ := h
          cases h
          obtain ⟨⟨u, hu'⟩, _, g1, g2⟩ := store_one hr hm hL
          exact ⟨ρ, _, _, .bool _, g1, g2, .inl (run_call_cas_hit c1 c2 c3 c4 _ c5 hc hz)⟩
        · rename_i heq
          cases h
          exact Runs.pure hr (.bool _) (run_call_cas_miss c1 c2 c3 c4 _ c5 hc hz (by simpa using heq))
      · cases h
end
end Go.Ab
end
