import Derived.Test.YtibcljekjjjnoaaGreatDoorCa
import Derived.KernelRfl
import Derived.Test.YtibcljekjjjnoaaGreatDoorBa
import Derived.Test.YtibcljekjjjnoaaGreatDoorAd
/- A part of the proof of FanlightNoPort: Cb. -/
set_option linter.all false
noncomputable section
namespace Go.Ab.F

def RT : Nat → Type
  | 0 => Option Value
  | n + 1 => N4 (RT n)
def sel4 {α : Type} : Nat → N4 α → α
  | 0, t => t.a
  | 1, t => t.b
  | 2, t => t.c
  | _, t => t.d
def upd4 {α : Type} : Nat → N4 α → α → N4 α
  | 0, ⟨_, b, c, d⟩, x => ⟨x, b, c, d⟩
  | 1, ⟨a, _, c, d⟩, x => ⟨a, x, c, d⟩
  | 2, ⟨a, b, _, d⟩, x => ⟨a, b, x, d⟩
  | _, ⟨a, b, c, _⟩, x => ⟨a, b, c, x⟩
theorem sel_upd {α : Type} {i j : Nat} (hi : i < 4) (hj : j < 4) (t : N4 α) (x : α) : sel4 i (upd4 j t x) = if i = j then x else sel4 i t := by
  obtain ⟨a, b, c, d⟩ := t
  match i, hi, j, hj with
  | 0, _, 0, _ | 0, _, 1, _ | 0, _, 2, _ | 0, _, 3, _ | 1, _, 0, _ | 1, _, 1, _ | 1, _, 2, _ | 1, _, 3, _ | 2, _, 0, _ | 2, _, 1, _ | 2, _, 2, _ | 2, _, 3, _ | 3, _, 0, _ | 3, _, 1, _ | 3, _, 2, _ | 3, _, 3, _ => rfl

def rd : (n : Nat) → Nat → RT n → Option Value
  | 0, _, t => t
  | n + 1, i, t => rd n (i / 4) (sel4 (i % 4) t)
def wr : (n : Nat) → Nat → Option Value → RT n → RT n
  | 0, _, v, _ => v
  | n + 1, i, v, t => upd4 (i % 4) t (wr n (i / 4) v (sel4 (i % 4) t))
theorem rd_wr : ∀ (n i j : Nat) (v : Option Value) (t : RT n), i < 4 ^ n → j < 4 ^ n → rd n i (wr n j v t) = if i = j then v else rd n i t
  | 0, i, j, v, t, hi, hj => by
    have : i = j := by simp at hi hj; omega
    simp [rd, wr, this]
  | n + 1, i, j, v, t, hi, hj => by
    rw [Nat.pow_succ] at hi hj
    have e := sel_upd (α := RT n) (i := i % 4) (j := j % 4) (by omega) (by omega) t (wr n (j / 4) v (sel4 (α := RT n) (j % 4) t))
    refine (congrArg (rd n (i / 4)) e).trans ?_
    by_cases h : i % 4 = j % 4
    · rw [if_pos h, rd_wr n _ _ _ _ (by omega) (by omega)]
      have : (i / 4 = j / 4) ↔ i = j := by omega
      simp only [this]
      show (if i = j then v else rd n (i / 4) (sel4 (α := RT n) (j % 4) t)) = if i = j then v else rd n (i / 4) (sel4 (α := RT n) (i % 4) t)
      rw [h]
    · rw [if_neg h, if_neg (by rintro rfl; exact h rfl)]
      rfl
noncomputable def mkS : (n : Nat) → Nat → Option Value → RT n → (RT n → An) → An
  | 0, _, v, _, K => K v
  | n + 1, i, v, t, K => N4.rec (motive := fun _ => An) (fun a b c d => mkS n (i / 4) v (sel4 (i % 4) ⟨a, b, c, d⟩) fun x => K (upd4 (i % 4) ⟨a, b, c, d⟩ x)) t
theorem mkS_eq : ∀ (n i : Nat) (v : Option Value) (t : RT n) (K : RT n → An), mkS n i v t K = K (wr n i v t)
  | 0, _, _, _, _ => rfl
  | n + 1, i, v, t, K => by
    obtain ⟨a, b, c, d⟩ := t
    show mkS n (i / 4) v (sel4 (i % 4) ⟨a, b, c, d⟩) (fun x => K (upd4 (i % 4) ⟨a, b, c, d⟩ x)) = _
    rw [mkS_eq n]
    rfl

noncomputable def ixL {α : Type} (l : List α) : Nat → Option α :=
  List.rec (motive := fun _ => Nat → Option α) (fun _ => none) (fun x _ ih i => Nat.rec (motive := fun _ => Option α) (some x) (fun i _ => ih i) i) l
theorem ixL_eq {α : Type} : ∀ (l : List α) (i : Nat), ixL l i = l[i]?
  | [], _ => rfl
  | _ :: _, 0 => rfl
  | _ :: l, i + 1 => ixL_eq l i

/-- a file of registers -/
structure RF (τ : Type) where
  G : List (GetT τ)
  S : List (SetT τ)
  z : τ
def RF.R {τ : Type} (f : RF τ) (t : τ) (T : Tm) : Prop := ∀ i g, ixL f.G i = some g → g t = T.get i
structure RFOk {τ : Type} (f : RF τ) : Prop where
  z : f.R f.z .e
  g : ∀ i g, ixL f.G i = some g → i + 1 < 2 ^ 24
  s : ∀ j s, ixL f.S j = some s → ∀ v t T, f.R t T → ∃ t', (∀ K, s v t K = K t') ∧ f.R t' (T.put j v)

theorem rfOk_of (n : Nat) (hn : 4 ^ n + 1 < 2 ^ 24) (G : List (GetT (RT n))) (S : List (SetT (RT n))) (z : RT n) (hG : G = (List.range (4 ^ n)).map (rd n)) (hS : S = (List.range (4 ^ n)).map fun j v t K => mkS n j (some v) t K)
    (hz : ∀ i, i < 4 ^ n → rd n i z = none) : RFOk (⟨G, S, z⟩ : RF (RT n)) := by
  have hg : ∀ i g, ixL G i = some g → i < 4 ^ n ∧ g = rd n i := fun i g h => by
    rw [ixL_eq, hG, List.getElem?_map] at h
    by_cases hi : i < 4 ^ n
    · rw [List.getElem?_range hi] at h
      exact ⟨hi, by simpa using h.symm⟩
    · rw [List.getElem?_eq_none (by simpa using hi)] at h
      cases h
  have hs : ∀ i s, ixL S i = some s → i < 4 ^ n ∧ s = fun v t K => mkS n i (some v) t K := fun i s h => by
    rw [ixL_eq, hS, List.getElem?_map] at h
    by_cases hi : i < 4 ^ n
    · rw [List.getElem?_range hi] at h
      exact ⟨hi, by simpa using h.symm⟩
    · rw [List.getElem?_eq_none (by simpa using hi)] at h
      cases h
  refine ⟨fun i g h => ?_, fun i g h => ?_, fun j s h v t T hR => ?_⟩
  · obtain ⟨h1, rfl⟩ := hg i g h
    rw [hz i h1]
    rfl
  · have := (hg i g h).1
    omega
  · obtain ⟨h1, rfl⟩ := hs j s h
    refine ⟨wr n j (some v) t, fun K => mkS_eq n j _ t K, fun i g hi => ?_⟩
    obtain ⟨h2, rfl⟩ := hg i g hi
    have h3 := hR i _ hi
    rw [rd_wr n i j _ t h2 h1]
    by_cases hij : i = j
    · subst hij
      rw [if_pos rfl, Tr.get_put_lt T i v (by show i + 1 < 2 ^ 24; omega)]
    · rw [if_neg hij, Tr.get_put_ne T v hij]
      exact h3

theorem gets3_eq : gets3 = ((List.range (4 ^ 3)).map (rd 3) : List (GetT (RT 3))) := by kernel_rfl
theorem sets3_eq : sets3 = ((List.range (4 ^ 3)).map (fun j v t K => mkS 3 j (some v) t K) : List (SetT (RT 3))) := by kernel_rfl
theorem gets4_eq : gets4 = ((List.range (4 ^ 4)).map (rd 4) : List (GetT (RT 4))) := by kernel_rfl
theorem sets4_eq : sets4 = ((List.range (4 ^ 4)).map (fun j v t K => mkS 4 j (some v) t K) : List (SetT (RT 4))) := by kernel_rfl
def z1 : N4 (Option Value) := ⟨none, none, none, none⟩
def z2 : N4 (N4 (Option Value)) := ⟨z1, z1, z1, z1⟩
def z3 : R3 := ⟨z2, z2, z2, z2⟩
def z4 : R4 := ⟨z3, z3, z3, z3⟩
noncomputable def rf3 : RF R3 := ⟨gets3, sets3, z3⟩
noncomputable def rf4 : RF R4 := ⟨gets4, sets4, z4⟩
theorem sel_same {α : Type} (i : Nat) (x : α) : sel4 i (⟨x, x, x, x⟩ : N4 α) = x := by
  match i with
  | 0 | 1 | 2 | _ + 3 => rfl
def zr : (n : Nat) → RT n
  | 0 => none
  | n + 1 => (⟨zr n, zr n, zr n, zr n⟩ : N4 (RT n))
theorem rd_zr : ∀ (n i : Nat), rd n i (zr n) = none
  | 0, _ => rfl
  | n + 1, i => by
    show rd n (i / 4) (sel4 (α := RT n) (i % 4) (⟨zr n, zr n, zr n, zr n⟩ : N4 (RT n))) = none
    rw [sel_same]
    exact rd_zr n _
theorem rd_z3 (i : Nat) : rd 3 i z3 = none := rd_zr 3 i
theorem rd_z4 (i : Nat) : rd 4 i z4 = none := rd_zr 4 i
theorem rf3_ok : RFOk rf3 := rfOk_of 3 (by decide) gets3 sets3 z3 gets3_eq sets3_eq fun i _ => rd_z3 i
theorem rf4_ok : RFOk rf4 := rfOk_of 4 (by decide) gets4 sets4 z4 gets4_eq sets4_eq fun i _ => rd_z4 i
end Go.Ab.F

namespace Go.Ab.F

inductive CX (τ : Type) where
  | path (g : GetT τ)
  | val (v : Value)
  | bad
section
variable {τ : Type}
noncomputable def evX (x : CX τ) (t : τ) (K : Value → An) : An :=
  CX.rec (motive := fun _ => τ → (Value → An) → An) (fun g t K => Option.rec (motive := fun _ => An) (K undefV) K (g t)) (fun v _ K => K v) (fun _ _ => none) x t K
noncomputable def compX (f : RF τ) (o : Operand) : CX τ :=
  match o with
  | .tmp i => Option.rec (motive := fun _ => CX τ) .bad (fun g => .path g) (ixL f.G i)
  | .const v => .val v
  | .global g => .val (.pointer (some ⟨g, 0, none⟩))
  | .func f => .val (.func (.func f) #[] #[])
noncomputable def okX (f : RF τ) (o : Operand) : Bool :=
  match o with
  | .tmp i => Option.rec (motive := fun _ => Bool) false (fun _ => true) (ixL f.G i)
  | _ => true
theorem okX_tmp {f : RF τ} {i : Nat} (h : okX f (.tmp i) = true) : ∃ g, ixL f.G i = some g := by
  unfold okX at h
  simp only at h
  cases hg : ixL f.G i with
  | none => rw [hg] at h; cases h
  | some g => exact ⟨g, rfl⟩
theorem evX_eq {f : RF τ} {t : τ} {T : Tm} (hR : f.R t T) {o : Operand} (ho : okX f o = true) (K : Value → An) : evX (compX f o) t K = K (ev T o) := by
  cases o with
  | tmp i =>
    obtain ⟨g, hg⟩ := okX_tmp ho
    unfold compX
    simp only [hg]
    show Option.rec (motive := fun _ => An) (K undefV) K (g t) = _
    rw [hR i g hg]
    simp only [ev]
    cases T.get i <;> rfl
  | _ => rfl
noncomputable def evsX (l : List (CX τ)) : τ → (List Value → An) → An :=
  List.rec (motive := fun _ => τ → (List Value → An) → An) (fun _ K => K []) (fun x _ ih t K => evX x t fun v => ih t fun r => K (v :: r)) l
theorem evsX_eq {f : RF τ} {t : τ} {T : Tm} (hR : f.R t T) : ∀ {l : List Operand}, l.all (okX f) = true → ∀ K : List Value → An, evsX (l.map (compX f)) t K = K (l.map (ev T))
  | [], _, _ => rfl
  | o :: l, h, K => by
    simp only [List.all_cons, Bool.and_eq_true] at h
    show evX (compX f o) t (fun v => evsX (l.map (compX f)) t fun r => K (v :: r)) = _
    rw [evX_eq hR h.1, evsX_eq hR h.2]
    rfl

/-! ### an operation in its old form: on the registers that it reads -/
abbrev SL (τ : Type) := List (Nat × GetT τ)
noncomputable def smallT (l : SL τ) (t : τ) : Tm :=
  List.rec (motive := fun _ => Tm) .e (fun p _ ih => Option.rec (motive := fun _ => Tm) ih (fun v => setN (some v) p.1 ih) (p.2 t)) l
noncomputable def compSL (f : RF τ) (l : List Operand) : SL τ :=
  List.rec (motive := fun _ => SL τ) [] (fun o _ ih => match o with | .tmp i => Option.rec (motive := fun _ => SL τ) ih (fun g => (i, g) :: ih) (ixL f.G i) | _ => ih) l
theorem smallT_get {f : RF τ} (hf : RFOk f) {t : τ} {T : Tm} (hR : f.R t T) : ∀ (l : List Operand) (i : Nat), (smallT (compSL f l) t).get i = T.get i ∨ ((smallT (compSL f l) t).get i = none ∧ ∀ o ∈ l, o = .tmp i → okX f o = false)
  | [], i => .inr ⟨rfl, by simp⟩
  | o :: l, i => by
    have ih := smallT_get hf hR l i
    have keep : (smallT (compSL f (o :: l)) t = smallT (compSL f l) t) → (o = .tmp i → okX f o = false) → (smallT (compSL f (o :: l)) t).get i = T.get i ∨ ((smallT (compSL f (o :: l)) t).get i = none ∧ ∀ q ∈ o :: l, q = .tmp i → okX f q = false) := fun e0 h => by
      rw [e0]
      rcases ih with ih | ⟨h1, h2⟩
      · exact .inl ih
      · refine .inr ⟨h1, fun q hq e => ?_⟩
        rcases List.mem_cons.1 hq with rfl | hq
        · exact h e
        · exact h2 q hq e
    cases o with
    | tmp j =>
      cases hg : ixL f.G j with
      | none =>
        refine keep ?_ fun e => ?_
        · show smallT (Option.rec (motive := fun _ => SL τ) (compSL f l) (fun g => (j, g) :: compSL f l) (ixL f.G j)) t = _
          rw [hg]
        · unfold okX; simp only [hg]
      | some g =>
        have e : smallT (compSL f (.tmp j :: l)) t = Option.rec (motive := fun _ => Tm) (smallT (compSL f l) t) (fun v => setN (some v) j (smallT (compSL f l) t)) (T.get j) := by
          show smallT (Option.rec (motive := fun _ => SL τ) (compSL f l) (fun g => (j, g) :: compSL f l) (ixL f.G j)) t = _
          rw [hg, ← hR j g hg]
          rfl
        have hlow := hf.g j g hg
        cases hT : T.get j with
        | none =>
          rw [hT] at e
          have e' : smallT (compSL f (.tmp j :: l)) t = smallT (compSL f l) t := e
          by_cases hij : i = j
          · subst hij
            rw [e', hT]
            rcases ih with ih | ⟨h1, h2⟩
            · rw [ih, hT]; exact .inl rfl
            · rw [h1]; exact .inl rfl
          · exact keep e' fun h => by cases h; exact (hij rfl).elim
        | some v =>
          rw [hT] at e
          have e' : smallT (compSL f (.tmp j :: l)) t = (smallT (compSL f l) t).put j v := e.trans (setN_put v j _)
          by_cases hij : i = j
          · subst hij
            rw [e', hT]
            exact .inl (Tr.get_put_lt _ i v hlow)
          · rw [e', Tr.get_put_ne _ v hij]
            rcases ih with ih | ⟨h1, h2⟩
            · exact .inl ih
            · refine .inr ⟨h1, fun q hq e => ?_⟩
              rcases List.mem_cons.1 hq with rfl | hq
              · cases e; exact (hij rfl).elim
              · exact h2 q hq e
    | _ => exact keep rfl (by simp)
theorem smallT_ev {f : RF τ} (hf : RFOk f) {t : τ} {T : Tm} (hR : f.R t T) {l : List Operand} (hl : l.all (okX f) = true) : ∀ x ∈ l, ev (smallT (compSL f l) t) x = ev T x := fun x hx => by
  cases x with
  | tmp i =>
    simp only [ev]
    rcases smallT_get hf hR l i with h | ⟨_, h⟩
    · rw [h]
    · have := h _ hx rfl
      rw [List.all_eq_true] at hl
      rw [hl _ hx] at this
      cases this
  | _ => rfl
end
end Go.Ab.F

namespace Go.Ab.F

/-- an operation in its old form -/
structure SO (τ : Type) where
  o : Op
  l : SL τ
inductive CO (τ : Type) where
  | mv (x : CX τ)
  | pick (c a b : CX τ)
  | ld (sz : Nat) (agg : Bool) (x : CX τ)
  | st (sz : Nat) (x v : CX τ)
  | new (ty n : Nat) (c : Tr Value)
  | box (ty : Nat) (x : CX τ)
  | nilc (x : CX τ)
  | bin (op : BinOp) (ty : TypeId) (f : BF) (x y : CX τ)
  | sh (op : BinOp) (ty : TypeId) (f : BF) (x y : CX τ)
  | not (x : CX τ)
  | conv (k : IntKind) (x : CX τ)
  | fAddr (off : Nat) (x : CX τ)
  | iAddrS (sz : Nat) (x ix : CX τ)
  | iAddrA (len sz : Nat) (x ix : CX τ)
  | len (x : CX τ)
  | ext (x : CX τ) (i : Nat)
  | callF (g : Nat) (args : List (CX τ))
  | slow (o : SO τ)
  | bad

/-- a number of another kind -/
noncomputable def convF (k : IntKind) (v : Value) (K : Value → An) : An :=
  Value.rec (motive_1 := fun _ => IntKind → (Value → An) → An) (motive_2 := fun _ => PUnit) (motive_3 := fun _ => PUnit)
    (fun _ _ _ => none) (fun _ n k K => Int.rec (motive := fun _ => An) (fun n => wrapX k n K (K (.int k (k.wrap (.ofNat n))))) (fun n => K (.int k (k.wrap (.negSucc n)))) n) (fun _ _ _ _ => none) (fun _ _ _ _ _ => none) (fun _ _ _ => none) (fun _ _ _ => none) (fun _ _ _ _ _ => none) (fun _ _ _ => none) (fun _ _ _ => none)
    (fun _ _ _ _ _ _ _ => none) (fun _ _ => none) (fun _ _ _ _ _ => none) (fun _ _ => none) (fun _ _ _ _ => none) (fun _ _ _ _ => none) (fun _ _ => ⟨⟩) ⟨⟩ (fun _ _ _ _ => ⟨⟩) v k K
section
variable {τ : Type} (ti : Tr TI)
abbrev XT (τ : Type) := Tr TI → CallT → τ → Mem → KV → An
noncomputable def slowM (o : SO τ) : XT τ := fun ti call t m K => SO.rec (motive := fun _ => An) (fun o l => bindA (opD ti call o (smallT l t) m) fun p => K p.1 p.2) o
noncomputable def mvM (x : CX τ) : XT τ := fun _ _ t m K => evX x t fun v => K v m
noncomputable def pickM (c a b : CX τ) : XT τ := fun _ _ t m K => evX c t fun v => onBool v (fun q => Bool.rec (motive := fun _ => An) (evX b t fun v => K v m) (evX a t fun v => K v m) q) none
noncomputable def ldM (sz : Nat) (agg : Bool) (x : CX τ) : XT τ := fun _ _ t m K => evX x t fun v => onPtr v (fun b off => loadX b off sz agg m fun v => K v m) none
noncomputable def stM (sz : Nat) (x v : CX τ) : XT τ := fun _ _ t m K => evX x t fun p => onPtr p (fun b off => evX v t fun u => cellsX u fun vs => test (Nat.beq (lenX vs) sz) (storeX b off vs m fun m => K undefV m)) none
noncomputable def newM (ty n : Nat) (c : Tr Value) : XT τ := fun _ _ _ m K => newX ty n c m fun b m => K (.pointer (some ⟨b, 0, none⟩)) m
noncomputable def boxM (ty : Nat) (x : CX τ) : XT τ := fun _ _ t m K => evX x t fun u => cellsX u fun vs => newX ty (lenX vs) (layX vs 0 .e) m fun b m => K (.pointer (some ⟨b, 0, none⟩)) m
noncomputable def nilM (x : CX τ) : XT τ := fun _ _ t m K => evX x t fun v => onSome v (fun a => K (.pointer (some a)) m) none
noncomputable def binM (op : BinOp) (ty : TypeId) (f : BF) (x y : CX τ) : XT τ := fun ti _ t m K => evX x t fun u => evX y t fun v => binF f u v (fun r => K r m) (bindA (binD ti op ty u v) fun r => K r m)
noncomputable def shM (op : BinOp) (ty : TypeId) (f : BF) (x y : CX τ) : XT τ := fun ti _ t m K => evX x t fun u => evX y t fun v => shF f u v (fun r => K r m) (bindA (binD ti op ty u v) fun r => K r m)
noncomputable def notM (x : CX τ) : XT τ := fun _ _ t m K => evX x t fun v => onBool v (fun b => K (.bool (Bool.rec (motive := fun _ => Bool) true false b)) m) none
noncomputable def convM (k : IntKind) (x : CX τ) : XT τ := fun _ _ t m K => evX x t fun v => convF k v fun r => K r m
noncomputable def fAddrM (o : Nat) (x : CX τ) : XT τ := fun _ _ t m K => evX x t fun v => onPtr v (fun b off => K (.pointer (some ⟨b, Nat.add off o, none⟩)) m) none
noncomputable def iAddrSM (sz : Nat) (x ix : CX τ) : XT τ := fun _ _ t m K => evX ix t fun w => onInt w (fun _ n => evX x t fun v => onSlice v (fun a len _ => onAddr a (fun b off => test (Nat.ble (Nat.add n 1) len) (K (.pointer (some ⟨b, Nat.add off (Nat.mul n sz), none⟩)) m)) none) none) none
noncomputable def iAddrAM (len sz : Nat) (x ix : CX τ) : XT τ := fun _ _ t m K => evX ix t fun w => onInt w (fun _ n => evX x t fun v => onPtr v (fun b off => test (Nat.ble (Nat.add n 1) len) (K (.pointer (some ⟨b, Nat.add off (Nat.mul n sz), none⟩)) m)) none) none
noncomputable def lenM (x : CX τ) : XT τ := fun _ _ t m K => evX x t fun v => onSlice v (fun _ n _ => K (.int .i64 (.ofNat n)) m) none
noncomputable def extM (x : CX τ) (i : Nat) : XT τ := fun _ _ t m K => evX x t fun v => onTuple v (fun vs => Array.rec (motive := fun _ => An) (fun l => nthX l i fun r => K r m) vs) none
noncomputable def callFM (g : Nat) (args : List (CX τ)) : XT τ := fun _ call t m K => evsX args t fun l => bindA (call g l m) fun p => Prod.rec (motive := fun _ => An) K p

noncomputable def execX (o : CO τ) : XT τ :=
  CO.rec (motive := fun _ => XT τ) mvM pickM ldM stM newM boxM nilM binM shM notM convM fAddrM iAddrSM iAddrAM lenM extM callFM slowM (fun _ _ _ _ _ => none) o
noncomputable def compO1 (f : RF τ) (o : Op) : CO τ :=
  let so : SO τ := ⟨o, compSL f o.operands.toList⟩
  match o with
  | .move x | .assign x => .mv (compX f x)
  | .pick c a b => .pick (compX f c) (compX f a) (compX f b)
  | .load ty x => match ti.get ty with
    | some i => .ld i.size i.agg (compX f x)
    | none => .slow so
  | .store ty x v => match ti.get ty with
    | some i => .st i.size (compX f x) (compX f v)
    | none => .slow so
  | .alloc ty => match ti.get ty with
    | some i => .new ty (lenX i.zero) (layX i.zero 0 .e)
    | none => .slow so
  | .box ty x => .box ty (compX f x)
  | .nilCheck x => .nilc (compX f x)
  | .binOp op ty x y _ => match binOf op with
    | some g => .bin op ty g (compX f x) (compX f y)
    | none => match shOf op with
      | some g => .sh op ty g (compX f x) (compX f y)
      | none => .slow so
  | .unOp .not _ x => .not (compX f x)
  | .convert src dst x => match ti.get dst, ti.get src with
    | some i, some j => match j.d, i.d with
      | .int _, .int k => .conv k (compX f x)
      | _, _ => .slow so
    | _, _ => .slow so
  | .fieldAddr ty x fi => match ti.get ty with
    | some i => match i.d with
      | .struct fs => match fs[fi]? with
        | some q => if q.2.1 = 0 then .slow so else .fAddr q.1 (compX f x)
        | none => .slow so
      | _ => .slow so
    | none => .slow so
  | .indexAddr ty x ix => match ti.get ty with
    | some i => match i.d with
      | .slice _ sz => .iAddrS sz (compX f x) (compX f ix)
      | .array n _ sz => .iAddrA n sz (compX f x) (compX f ix)
      | _ => .slow so
    | none => .slow so
  | .extract x i => .ext (compX f x) i
  | .call ⟨.value (.func g), args, _⟩ => .callF g (args.toList.map (compX f))
  | .call ⟨.builtin .len, args, at'⟩ => match args.toList, at'.toList with
    | [x], [ty] => match ti.get ty with
      | some i => match i.d with
        | .slice _ _ => .len (compX f x)
        | _ => .slow so
      | none => .slow so
    | _, _ => .slow so
  | _ => .slow so

noncomputable def compO (f : RF τ) (o : Op) : CO τ := Bool.rec (motive := fun _ => CO τ) .bad (compO1 ti f o) (o.operands.toList.all (okX f))
end
end Go.Ab.F

namespace Go.Ab.F
section
variable {τ : Type} {f : RF τ} {ti : Tr TI} {call : CallT} {t : τ} {T : Tm} {m : Mem} {K : KV}

def Le (x y : An) : Prop := x = none ∨ x = y
theorem Le.refl (x : An) : Le x x := .inr rfl
theorem Le.bot (y : An) : Le none y := .inl rfl
theorem Le.trans {x y z : An} (h : Le x y) (k : Le y z) : Le x z := by
  rcases h with rfl | rfl
  · exact .inl rfl
  · exact k
theorem Le.bind {α : Type} {x y : Option α} {F G : α → An} (h : x = none ∨ x = y) (hF : ∀ p, Le (F p) (G p)) : Le (x.bind F) (y.bind G) := by
  rcases h with rfl | rfl
  · exact .bot _
  · cases x with
    | none => exact .refl _
    | some p => exact hF p
theorem slowM_eq (hf : RFOk f) (hR : f.R t T) {o : Op} (ho : o.operands.toList.all (okX f) = true) : slowM ⟨o, compSL f o.operands.toList⟩ ti call t m K = runK ti call o T m K := by
  show bindA (opD ti call o (smallT (compSL f o.operands.toList) t) m) (fun p => K p.1 p.2) = _
  rw [bindA_eq, opD_congr (t' := T) o (smallT_ev hf hR ho)]
  rfl

theorem binM_eq (hR : f.R t T) {g : IntKind → Nat → Nat → Option Value} {bf : BF} (h : BSpec g bf) {op : BinOp} {ty ty' : TypeId} (hg : ∀ k a b, binD ti op ty (.int k (.ofNat a)) (.int k (.ofNat b)) = g k a b) {x y : Operand} (hx : okX f x = true) (hy : okX f y = true) :
    binM op ty bf (compX f x) (compX f y) ti call t m K = runK ti call (.binOp op ty x y ty') T m K := by
  unfold binM
  rw [evX_eq hR hx, evX_eq hR hy, bindA_eq, binF_eq h]
  · simp [runK, opD, Option.bind_assoc]
  · intro k a b hu hv
    rw [hu, hv]; exact hg k a b
theorem shM_eq (hR : f.R t T) {g : IntKind → Nat → Nat → Option Value} {bf : BF} (h : BSpec g bf) {op : BinOp} {ty ty' : TypeId} (hg : ∀ j k a b, binD ti op ty (.int j (.ofNat a)) (.int k (.ofNat b)) = g j a b) {x y : Operand} (hx : okX f x = true) (hy : okX f y = true) :
    shM op ty bf (compX f x) (compX f y) ti call t m K = runK ti call (.binOp op ty x y ty') T m K := by
  unfold shM
  rw [evX_eq hR hx, evX_eq hR hy, bindA_eq, shF_eq h]
  · simp [runK, opD, Option.bind_assoc]
  · intro j k a b hu hv
    rw [hu, hv]; exact hg j k a b
theorem binM_all (hR : f.R t T) {op : BinOp} {bf : BF} (hf : binOf op = some bf) {ty ty' : TypeId} {x y : Operand} (hx : okX f x = true) (hy : okX f y = true) : binM op ty bf (compX f x) (compX f y) ti call t m K = runK ti call (.binOp op ty x y ty') T m K := by
  have hi : ∀ k a b, (∀ r, op ≠ .shl → op ≠ .shr → op ≠ .eql → op ≠ .neq → r = intD op k (Int.ofNat a) (Int.ofNat b) → binD ti op ty (.int k (.ofNat a)) (.int k (.ofNat b)) = r) := fun k a b r h1 h2 h3 h4 hr => by
    subst hr
    cases op <;> first | (exact (h1 rfl).elim) | (exact (h2 rfl).elim) | (exact (h3 rfl).elim) | (exact (h4 rfl).elim) | simp [binD]
  cases op <;> simp only [binOf, Option.some.injEq, reduceCtorEq] at hf <;> subst hf
  case add => exact binM_eq hR addB_spec (fun k a b => hi k a b _ (by simp) (by simp) (by simp) (by simp) rfl) hx hy
  case sub => exact binM_eq hR subB_spec (fun k a b => hi k a b _ (by simp) (by simp) (by simp) (by simp) rfl) hx hy
  case mul => exact binM_eq hR mulB_spec (fun k a b => hi k a b _ (by simp) (by simp) (by simp) (by simp) rfl) hx hy
  case quo => exact binM_eq hR quoB_spec (fun k a b => hi k a b _ (by simp) (by simp) (by simp) (by simp) rfl) hx hy
  case rem => exact binM_eq hR remB_spec (fun k a b => hi k a b _ (by simp) (by simp) (by simp) (by simp) rfl) hx hy
  case and => exact binM_eq hR andB_spec (fun k a b => hi k a b _ (by simp) (by simp) (by simp) (by simp) rfl) hx hy
  case or => exact binM_eq hR orB_spec (fun k a b => hi k a b _ (by simp) (by simp) (by simp) (by simp) rfl) hx hy
  case xor => exact binM_eq hR xorB_spec (fun k a b => hi k a b _ (by simp) (by simp) (by simp) (by simp) rfl) hx hy
  case lss => exact binM_eq hR lssB_spec (fun k a b => hi k a b _ (by simp) (by simp) (by simp) (by simp) rfl) hx hy
  case leq => exact binM_eq hR leqB_spec (fun k a b => hi k a b _ (by simp) (by simp) (by simp) (by simp) rfl) hx hy
  case gtr => exact binM_eq hR gtrB_spec (fun k a b => hi k a b _ (by simp) (by simp) (by simp) (by simp) rfl) hx hy
  case geq => exact binM_eq hR geqB_spec (fun k a b => hi k a b _ (by simp) (by simp) (by simp) (by simp) rfl) hx hy
  case eql =>
    refine binM_eq hR (g := fun _ a b => some (.bool (Nat.beq a b))) (fun k a b K d _ => rfl) (fun k a b => ?_) hx hy
    show ((eqlD ti ty (.int k (.ofNat a)) (.int k (.ofNat b))).bind fun r => some (Value.bool r)) = _
    rw [eqlD_int]
    rfl
  case neq =>
    refine binM_eq hR (g := fun _ a b => some (.bool (!(Nat.beq a b)))) (fun k a b K d _ => ?_) (fun k a b => ?_) hx hy
    · show K (.bool _) = K (.bool _)
      cases Nat.beq a b <;> rfl
    · show ((eqlD ti ty (.int k (.ofNat a)) (.int k (.ofNat b))).bind fun r => some (Value.bool (!r))) = _
      rw [eqlD_int]
      rfl
theorem shM_all (hR : f.R t T) {op : BinOp} {bf : BF} (hf : shOf op = some bf) {ty ty' : TypeId} {x y : Operand} (hx : okX f x = true) (hy : okX f y = true) : shM op ty bf (compX f x) (compX f y) ti call t m K = runK ti call (.binOp op ty x y ty') T m K := by
  cases op <;> simp only [shOf, Option.some.injEq, reduceCtorEq] at hf <;> subst hf
  case shl =>
    refine shM_eq hR shlB_spec (fun j k a b => ?_) hx hy
    simp only [binD, shlS]
    rw [if_neg (by simp)]
    rfl
  case shr =>
    refine shM_eq hR shrB_spec (fun j k a b => ?_) hx hy
    simp only [binD, shrS]
    rw [if_neg (by simp)]
    rfl

theorem mvM_eq (hR : f.R t T) {x : Operand} (hx : okX f x = true) : mvM (compX f x) ti call t m K = K (ev T x) m := by unfold mvM; rw [evX_eq hR hx]
theorem pickM_eq (hR : f.R t T) {c a b : Operand} (hc : okX f c = true) (ha : okX f a = true) (hb : okX f b = true) : pickM (compX f c) (compX f a) (compX f b) ti call t m K = runK ti call (.pick c a b) T m K := by
  unfold pickM
  rw [evX_eq hR hc, onBool_eq]
  simp only [evX_eq hR ha, evX_eq hR hb, runK, opD]
  cases ev T c <;> try rfl
  rename_i b; cases b <;> rfl
theorem ldM_eq (hR : f.R t T) {ty : TypeId} {i : TI} (hi : ti.get ty = some i) {x : Operand} (hx : okX f x = true) : ldM i.size i.agg (compX f x) ti call t m K = runK ti call (.load ty x) T m K := by
  unfold ldM
  rw [evX_eq hR hx, onPtr_eq]
  simp [runK, opD, hi, loadX_eq, Option.bind_assoc]
theorem stM_eq (hR : f.R t T) {ty : TypeId} {i : TI} (hi : ti.get ty = some i) {x v : Operand} (hx : okX f x = true) (hv : okX f v = true) : stM i.size (compX f x) (compX f v) ti call t m K = runK ti call (.store ty x v) T m K := by
  unfold stM
  rw [evX_eq hR hx, onPtr_eq]
  simp only [runK, opD, hi, Option.bind_eq_bind, Option.bind_some, Option.bind_assoc, evX_eq hR hv, cellsX_eq, test_eq, storeX_eq, lenX_eq]
  refine congrArg _ (funext fun p => congrArg _ (funext fun vs => ?_))
  have : (Nat.beq vs.length i.size = true) = (vs.length = i.size) := by simp
  simp only [this]
  split
  · simp [Option.bind_assoc]
  · rfl
theorem newM_eq {ty : TypeId} {i : TI} (hi : ti.get ty = some i) : newM ty (lenX i.zero) (layX i.zero 0 .e) ti call t m K = runK ti call (.alloc ty) T m K := by
  unfold newM
  rw [newX_eq]
  simp [runK, opD, hi, Option.bind_assoc]
theorem boxM_eq (hR : f.R t T) {ty : TypeId} {x : Operand} (hx : okX f x = true) : boxM ty (compX f x) ti call t m K = runK ti call (.box ty x) T m K := by
  unfold boxM
  rw [evX_eq hR hx, cellsX_eq]
  simp only [newX_eq]
  simp [runK, opD, Option.bind_assoc]
theorem nilM_le (hR : f.R t T) {x : Operand} (hx : okX f x = true) : Le (nilM (compX f x) ti call t m K) (runK ti call (.nilCheck x) T m K) := by
  unfold nilM
  rw [evX_eq hR hx, onSome_eq]
  split
  · rename_i a ha
    right
    simp [runK, opD, ha]
  · exact .inl rfl
theorem notM_le (hR : f.R t T) {ty : TypeId} {x : Operand} (hx : okX f x = true) : Le (notM (compX f x) ti call t m K) (runK ti call (.unOp .not ty x) T m K) := by
  unfold notM
  rw [evX_eq hR hx, onBool_eq]
  split
  · rename_i b hb
    right
    simp only [runK, opD, hb, unD]
    cases b <;> rfl
  · exact .inl rfl
theorem convM_le (hR : f.R t T) {src dst : TypeId} {i j : TI} {k k' : IntKind} (hi : ti.get dst = some i) (hj : ti.get src = some j) (hd : i.d = .int k) (hs' : j.d = .int k') {x : Operand} (hx : okX f x = true) :
    Le (convM k (compX f x) ti call t m K) (runK ti call (.convert src dst x) T m K) := by
  unfold convM
  rw [evX_eq hR hx]
  cases hv : ev T x <;> try exact .inl rfl
  rename_i k2 n
  right
  have e : runK ti call (.convert src dst x) T m K = K (.int k (k.wrap n)) m := by
    simp [runK, opD, hi, hj, hd, hs', hv]
  rw [e]
  cases n with
  | ofNat n => exact wrapX_eq k n (fun r => K r m) _ rfl
  | negSucc n => rfl
theorem fAddrM_eq (hR : f.R t T) {ty : TypeId} {fi : Nat} {i : TI} {fs : List (Nat × Nat × Bool)} {q : Nat × Nat × Bool} (hi : ti.get ty = some i) (hd : i.d = .struct fs) (hf : fs[fi]? = some q) (h0 : q.2.1 ≠ 0) {x : Operand} (hx : okX f x = true) :
    fAddrM q.1 (compX f x) ti call t m K = runK ti call (.fieldAddr ty x fi) T m K := by
  unfold fAddrM
  rw [evX_eq hR hx, onPtr_eq]
  obtain ⟨o, sz, ag⟩ := q
  have hf' : fs[fi]? = some (o, sz, ag) := hf
  simp only [runK, opD, hi, Option.bind_eq_bind, Option.bind_some, Option.bind_assoc]
  refine congrArg _ (funext fun p => ?_)
  simp only [hd]
  rw [show fs[fi]?.bind _ = _ from congrArg (fun z => Option.bind z _) hf']
  have h0' : ¬ sz = 0 := h0
  simp only [Option.bind_some, if_neg h0']
  rfl
theorem iAddrSM_eq (hR : f.R t T) {ty : TypeId} {el sz : Nat} {i : TI} (hi : ti.get ty = some i) (hd : i.d = .slice el sz) {x ix : Operand} (hx : okX f x = true) (hix : okX f ix = true) : iAddrSM sz (compX f x) (compX f ix) ti call t m K = runK ti call (.indexAddr ty x ix) T m K := by
  unfold iAddrSM
  rw [evX_eq hR hix, onInt_eq]
  simp only [runK, opD, hi, Option.bind_eq_bind, Option.bind_some, evX_eq hR hx, onSlice_eq, onAddr_eq, test_eq, hd]
  generalize ev T ix = u
  generalize ev T x = w
  unfold natOf
  cases u <;> try rfl
  rename_i k n
  cases n with
  | negSucc n => rfl
  | ofNat n =>
    simp only [Option.bind_some]
    cases w <;> try rfl
    rename_i a len c
    cases a with
    | none => rfl
    | some a =>
      obtain ⟨b, off, s⟩ := a
      cases s with
      | some s => rfl
      | none =>
        simp only [Nat.ble_eq]
        show (if n < len then _ else _) = _
        split <;> rfl
theorem iAddrAM_eq (hR : f.R t T) {ty : TypeId} {n e sz : Nat} {i : TI} (hi : ti.get ty = some i) (hd : i.d = .array n e sz) {x ix : Operand} (hx : okX f x = true) (hix : okX f ix = true) : iAddrAM n sz (compX f x) (compX f ix) ti call t m K = runK ti call (.indexAddr ty x ix) T m K := by
  unfold iAddrAM
  rw [evX_eq hR hix, onInt_eq]
  simp only [runK, opD, hi, Option.bind_eq_bind, Option.bind_some, evX_eq hR hx, onPtr_eq, test_eq, hd]
  generalize ev T ix = u
  generalize ev T x = w
  unfold natOf
  cases u <;> try rfl
  rename_i k j
  cases j with
  | negSucc j => rfl
  | ofNat j =>
    simp only [Option.bind_some]
    unfold addrOf
    cases w <;> try rfl
    rename_i a
    cases a with
    | none => rfl
    | some a =>
      obtain ⟨b, off, s⟩ := a
      cases s with
      | some s => rfl
      | none =>
        simp only [Nat.ble_eq, Option.bind_some]
        show (if j < n then _ else _) = _
        split <;> rfl
theorem extM_eq (hR : f.R t T) {x : Operand} (hx : okX f x = true) (i : Nat) : extM (compX f x) i ti call t m K = runK ti call (.extract x i) T m K := by
  unfold extM
  rw [evX_eq hR hx, onTuple_eq]
  simp only [runK, opD]
  generalize ev T x = v
  cases v <;> try rfl
  rename_i vs
  obtain ⟨l⟩ := vs
  show nthX l i _ = _
  rw [nthX_eq]
  simp only [Option.bind_eq_bind, Option.bind_assoc]
  rfl
theorem callFM_eq (hR : f.R t T) (g : Nat) {args : Array Operand} (ha : args.toList.all (okX f) = true) (at' : Array TypeId) : callFM g (args.toList.map (compX f)) ti call t m K = runK ti call (.call ⟨.value (.func g), args, at'⟩) T m K := by
  unfold callFM
  rw [evsX_eq hR ha, bindA_eq]
  simp only [runK, opD, ev]
  simp
theorem lenM_le (hR : f.R t T) {ty : TypeId} {el sz : Nat} {i : TI} (hi : ti.get ty = some i) (hd : i.d = .slice el sz) {args : Array Operand} {at' : Array TypeId} {x : Operand} (ha : args.toList = [x]) (ht : at'.toList = [ty]) (hx : okX f x = true) :
    Le (lenM (compX f x) ti call t m K) (runK ti call (.call ⟨.builtin .len, args, at'⟩) T m K) := by
  unfold lenM
  rw [evX_eq hR hx, onSlice_eq]
  split
  · rename_i a n c hv
    right
    simp [runK, opD, ha, builtinD, hv, ht, hi, hd]
  · exact .inl rfl

theorem execX_le1 (hf : RFOk f) (hR : f.R t T) (o : Op) (ho : o.operands.toList.all (okX f) = true) : Le (execX (compO1 ti f o) ti call t m K) (runK ti call o T m K) := by
  have hs : slowM ⟨o, compSL f o.operands.toList⟩ ti call t m K = runK ti call o T m K := slowM_eq hf hR ho
  have slow : Le (execX (.slow ⟨o, compSL f o.operands.toList⟩) ti call t m K) (runK ti call o T m K) := .inr hs
  have ok : ∀ x ∈ o.operands.toList, okX f x = true := fun x hx => List.all_eq_true.1 ho x hx
  unfold compO1
  split
  · exact .inr (mvM_eq (ti := ti) (call := call) hR (ok _ (by simp [Op.operands])))
  · exact .inr (mvM_eq (ti := ti) (call := call) hR (ok _ (by simp [Op.operands])))
  · exact .inr (pickM_eq hR (ok _ (by simp [Op.operands])) (ok _ (by simp [Op.operands])) (ok _ (by simp [Op.operands])))
  · split
    · rename_i h; exact .inr (ldM_eq hR h (ok _ (by simp [Op.operands])))
    · exact slow
  · split
    · rename_i h; exact .inr (stM_eq hR h (ok _ (by simp [Op.operands])) (ok _ (by simp [Op.operands])))
    · exact slow
  · split
    · rename_i h; exact .inr (newM_eq (t := t) h)
    · exact slow
  · exact .inr (boxM_eq hR (ok _ (by simp [Op.operands])))
  · exact nilM_le hR (ok _ (by simp [Op.operands]))
  · split
    · rename_i h; exact .inr (binM_all hR h (ok _ (by simp [Op.operands])) (ok _ (by simp [Op.operands])))
    · split
      · rename_i h; exact .inr (shM_all hR h (ok _ (by simp [Op.operands])) (ok _ (by simp [Op.operands])))
      · exact slow
  · exact notM_le hR (ok _ (by simp [Op.operands]))
  · split
    · rename_i h1 h2
      split
      · rename_i h3 h4; exact convM_le hR h1 h2 h4 h3 (ok _ (by simp [Op.operands]))
      · exact slow
    · exact slow
  · split
    · rename_i h1
      split
      · rename_i h2
        split
        · rename_i h3
          split
          · exact slow
          · rename_i h4; exact .inr (fAddrM_eq hR h1 h2 h3 h4 (ok _ (by simp [Op.operands])))
        · exact slow
      · exact slow
    · exact slow
  · split
    · rename_i h1
      split
      · rename_i h2; exact .inr (iAddrSM_eq hR h1 h2 (ok _ (by simp [Op.operands])) (ok _ (by simp [Op.operands])))
      · rename_i h2; exact .inr (iAddrAM_eq hR h1 h2 (ok _ (by simp [Op.operands])) (ok _ (by simp [Op.operands])))
      · exact slow
    · exact slow
  · exact .inr (extM_eq hR (ok _ (by simp [Op.operands])) _)
  · rename_i args at'
    refine .inr (callFM_eq hR _ (List.all_eq_true.2 fun x hx => ok x ?_) _)
    have hx' : x ∈ args := by simpa using hx
    simp [Op.operands, Call.operands, hx']
  · split
    · rename_i h1 h2
      split
      · rename_i h3
        split
        · rename_i h4
          refine lenM_le hR h3 h4 h1 h2 (ok _ ?_)
          simp only [Op.operands, Call.operands]
          simp [h1]
        · exact slow
      · exact slow
    · exact slow
  · exact slow

theorem execX_le (hf : RFOk f) (hR : f.R t T) (o : Op) : Le (execX (compO ti f o) ti call t m K) (runK ti call o T m K) := by
  unfold compO
  cases h : o.operands.toList.all (okX f) with
  | false => exact .bot _
  | true => exact execX_le1 hf hR o h

/-- calls that say more -/
def CLe (call call' : CallT) : Prop := ∀ g l m, call g l m = none ∨ call g l m = call' g l m
theorem opD_mono {call' : CallT} (hc : CLe call call') (o : Op) : opD ti call o T m = none ∨ opD ti call o T m = opD ti call' o T m := by
  by_cases h : isCall o = true
  · unfold isCall at h
    split at h
    case h_2 => cases h
    simp only [opD]
    split
    · exact hc _ _ _
    · exact .inr rfl
  · right
    have h : isCall o = false := by simpa using h
    cases o with
    | call c =>
      obtain ⟨cal, args, at'⟩ := c
      cases cal with
      | value g => simp [isCall] at h
      | _ => rfl
    | makeFunc fn a c => cases fn <;> rfl
    | makeMap ty r => cases r <;> rfl
    | lookup ty x y ok => cases ok <;> rfl
    | slice ty x lo hi mx => cases mx <;> cases hi <;> rfl
    | _ => rfl
theorem runK_mono {call' : CallT} (hc : CLe call call') {K' : KV} (hK : ∀ v m, Le (K v m) (K' v m)) (o : Op) : Le (runK ti call o T m K) (runK ti call' o T m K') :=
  Le.bind (opD_mono hc o) fun p => hK p.1 p.2
end
end Go.Ab.F

namespace Go.Ab.F

section
variable {τ : Type}
inductive CG (τ : Type) where
  | no
  | at (g : GetT τ) (w : Bool)
  | bad
noncomputable def guardX (g : CG τ) (t : τ) (F : Bool → An) : An :=
  CG.rec (motive := fun _ => τ → (Bool → An) → An) (fun _ F => F true) (fun g w t F => bindA (g t) fun v => onGuard v w F) (fun _ _ => none) g t F
noncomputable def compG (f : RF τ) (all : List Oper) (g : Option (Nat × Bool)) : CG τ :=
  match g with
  | none => .no
  | some (j, w) => match all[j]? with
    | some o => match o.dst with
      | some d => Option.rec (motive := fun _ => CG τ) .bad (fun g => .at g w) (ixL f.G d)
      | none => .bad
    | none => .bad
theorem guardX_le {f : RF τ} {t : τ} {T : Tm} (hR : f.R t T) (all : List Oper) (g : Option (Nat × Bool)) {F F' : Bool → An} (hF : ∀ b, Le (F b) (F' b)) : Le (guardX (compG f all g) t F) ((wantD all g T).bind F') := by
  cases g with
  | none => exact hF true
  | some q =>
    obtain ⟨j, w⟩ := q
    unfold compG
    simp only
    cases ho : all[j]? with
    | none => exact .bot _
    | some o =>
      simp only
      cases hd : o.dst with
      | none => exact .bot _
      | some d =>
        simp only
        cases hg : ixL f.G d with
        | none => exact .bot _
        | some g =>
          show Le (bindA (g t) fun v => onGuard v w F) _
          rw [hR d g hg, bindA_eq]
          unfold wantD
          simp only [ho, hd]
          cases T.get d with
          | none => exact .bot _
          | some v =>
            cases v <;> try exact .bot _
            · rename_i b
              show Le (F _) (F' _)
              cases b <;> cases w <;> exact hF _
            · exact hF _

inductive DS (τ : Type) where
  | no
  | to (s : SetT τ)
  | bad
noncomputable def putX (d : DS τ) (v : Value) (t : τ) (K : τ → An) : An :=
  DS.rec (motive := fun _ => Value → τ → (τ → An) → An) (fun _ t K => K t) (fun s => s) (fun _ _ _ => none) d v t K
noncomputable def compDst (f : RF τ) (d : Option Nat) : DS τ :=
  match d with
  | none => .no
  | some d => Option.rec (motive := fun _ => DS τ) .bad (fun s => .to s) (ixL f.S d)
theorem putX_le {f : RF τ} (hf : RFOk f) {t : τ} {T : Tm} (hR : f.R t T) (d : Option Nat) (v : Value) {K : τ → An} {Y : An} (hK : ∀ t', f.R t' (putT T d v) → Le (K t') Y) : Le (putX (compDst f d) v t K) Y := by
  cases d with
  | none => exact hK t hR
  | some d =>
    unfold compDst
    simp only
    cases hs : ixL f.S d with
    | none => exact .bot _
    | some s =>
      show Le (s v t K) Y
      obtain ⟨t', h1, h2⟩ := hf.s d s hs v t T hR
      rw [h1]
      exact hK t' h2

inductive CL (τ : Type) where
  | nil
  | cons (op : CO τ) (s : SetT τ) (r : CL τ)
  | gen (g : CG τ) (op : CO τ) (d : DS τ) (r : CL τ)
abbrev KT (τ : Type) := τ → Mem → An
noncomputable def goL (ti : Tr TI) (call : CallT) (l : CL τ) : τ → Mem → KT τ → An :=
  CL.rec (motive := fun _ => τ → Mem → KT τ → An) (fun t m K => K t m)
    (fun op s _ ih t m K => execX op ti call t m fun v m => s v t fun t => ih t m K)
    (fun g op d _ ih t m K => guardX g t fun b => Bool.rec (motive := fun _ => An) (putX d undefV t fun t => ih t m K) (execX op ti call t m fun v m => putX d v t fun t => ih t m K) b) l
noncomputable def compL1 (f : RF τ) (ti : Tr TI) (all : List Oper) (o : Oper) (ih : CL τ) : CL τ :=
  match o.guard, compDst f o.dst with
  | none, .to s => .cons (compO ti f o.op) s ih
  | g, d => .gen (compG f all g) (compO ti f o.op) d ih
noncomputable def compL (f : RF τ) (ti : Tr TI) (all : List Oper) (l : List Oper) : CL τ :=
  List.rec (motive := fun _ => CL τ) .nil (fun o _ ih => compL1 f ti all o ih) l

def KLe (f : RF τ) (K : KT τ) (K' : Tm → Mem → An) : Prop := ∀ t T m, f.R t T → Le (K t m) (K' T m)

theorem goL_gen {f : RF τ} (hf : RFOk f) {ti : Tr TI} {call call' : CallT} (hc : CLe call call') {all : List Oper} {o : Oper} {r : List Oper} {X : CL τ} {K : KT τ} {K' : Tm → Mem → An}
    (ih : ∀ t T m, f.R t T → Le (goL ti call X t m K) ((opsD ti call' all r T m).bind fun p => K' p.1 p.2)) {t : τ} {T : Tm} (hR : f.R t T) (m : Mem) :
    Le (goL ti call (.gen (compG f all o.guard) (compO ti f o.op) (compDst f o.dst) X) t m K) ((opsD ti call' all (o :: r) T m).bind fun p => K' p.1 p.2) := by
  show Le (guardX (compG f all o.guard) t fun b => Bool.rec (motive := fun _ => An) (putX (compDst f o.dst) undefV t fun t => goL ti call X t m K) (execX (compO ti f o.op) ti call t m fun v m => putX (compDst f o.dst) v t fun t => goL ti call X t m K) b) _
  simp only [opsD, Option.bind_eq_bind, Option.bind_assoc]
  refine guardX_le hR all o.guard fun b => ?_
  cases b with
  | false => exact putX_le hf hR o.dst undefV fun t' h => ih t' _ m h
  | true =>
    simp only [Option.bind_assoc]
    refine (execX_le hf hR o.op).trans (Le.bind (opD_mono hc o.op) fun p => ?_)
    exact putX_le hf hR o.dst p.1 fun t' h => ih t' _ p.2 h
theorem goL_le {f : RF τ} (hf : RFOk f) {ti : Tr TI} {call call' : CallT} (hc : CLe call call') {all : List Oper} {K : KT τ} {K' : Tm → Mem → An} (hK : KLe f K K') :
    ∀ (l : List Oper) (t : τ) (T : Tm) (m : Mem), f.R t T → Le (goL ti call (compL f ti all l) t m K) ((opsD ti call' all l T m).bind fun p => K' p.1 p.2)
  | [], t, T, m, hR => hK t T m hR
  | o :: r, t, T, m, hR => by
    have main := goL_gen (ti := ti) hf hc (all := all) (o := o) (r := r) (goL_le hf hc hK r) hR m
    show Le (goL ti call (compL1 f ti all o (compL f ti all r)) t m K) _
    unfold compL1
    split
    · rename_i s hg hd
      rw [hg, hd] at main
      exact main
    · exact main

/-! ### regions whose order is drawn -/
inductive RL (τ : Type) where
  | nil (key : Bool) (k : Nat)
  | cons (key : Bool) (k : Nat) (g : CG τ) (op : CO τ) (d : DS τ) (r : RL τ)
  | early (key : Bool) (k : Nat) (g : CG τ) (ix : Nat) (o : SO τ) (d : DS τ) (r : RL τ)
abbrev KR (τ : Type) := τ → Mem → Acc → An
noncomputable def goR (ti : Tr TI) (call : CallT) (nx : Nat) (l : RL τ) : τ → Mem → Acc → KR τ → An :=
  RL.rec (motive := fun _ => τ → Mem → Acc → KR τ → An) (fun key k t m acc K => K t m (pushX key k m acc))
    (fun key k g op d _ ih t m acc K => guardX g t fun b => Bool.rec (motive := fun _ => An) (putX d undefV t fun t => ih t m (pushX key k m acc) K) (execX op ti call t m fun v m' => putX d v t fun t => ih t m' (pushX key k m acc) K) b)
    (fun key k g ix o d _ ih t m acc K => guardX g t fun b => Bool.rec (motive := fun _ => An) (putX d undefV t fun t => ih t m (pushX key k m acc) K) (bindA (allocAt ti (Nat.add nx ix) o.o (smallT o.l t) m) fun p => putX d p.1 t fun t => ih t p.2 (pushX key k m acc) K) b) l
noncomputable def compR1 (f : RF τ) (ti : Tr TI) (all : List Oper) (early keys : List Nat) (o : Oper) (k : Nat) (ih : RL τ) : RL τ :=
  match posOf k early 0 with
  | none => .cons (keys.contains k) k (compG f all o.guard) (compO ti f o.op) (compDst f o.dst) ih
  | some ix => Bool.rec (motive := fun _ => RL τ) (.cons (keys.contains k) k .bad .bad .no ih) (.early (keys.contains k) k (compG f all o.guard) ix ⟨o.op, compSL f o.op.operands.toList⟩ (compDst f o.dst) ih) (o.op.operands.toList.all (okX f))
noncomputable def compR (f : RF τ) (ti : Tr TI) (all : List Oper) (early keys : List Nat) (l : List Oper) : Nat → RL τ :=
  List.rec (motive := fun _ => Nat → RL τ) (fun k => .nil (keys.contains k) k) (fun o _ ih k => compR1 f ti all early keys o k (ih (Nat.add k 1))) l
theorem allocAt_congr {ti : Tr TI} {r : Nat} {o : Op} {T T' : Tm} {m : Mem} (h : ∀ x ∈ o.operands.toList, ev T x = ev T' x) : allocAt ti r o T m = allocAt ti r o T' m := by
  unfold allocAt
  rw [rowOf_congr h]
theorem goR_le {f : RF τ} (hf : RFOk f) {ti : Tr TI} {call call' : CallT} (hc : CLe call call') {all : List Oper} {early keys : List Nat} {nx : Nat} {K : KR τ} {K' : Tm → Mem → Acc → An} (hK : ∀ t T m acc, f.R t T → Le (K t m acc) (K' T m acc)) :
    ∀ (l : List Oper) (k : Nat) (t : τ) (T : Tm) (m : Mem) (acc : Acc), f.R t T → Le (goR ti call nx (compR f ti all early keys l k) t m acc K) ((opsR ti call' all early nx keys k l T m acc).bind fun p => K' p.1 p.2.1 p.2.2)
  | [], k, t, T, m, acc, hR => by
    show Le (K t m (pushX (keys.contains k) k m acc)) _
    rw [pushX_eq]
    exact hK t T m _ hR
  | o :: r, k, t, T, m, acc, hR => by
    have ih := goR_le hf (ti := ti) hc (all := all) (early := early) (keys := keys) (nx := nx) hK r (k + 1)
    have hp := posOf_shift k early nx
    show Le (goR ti call nx (compR1 f ti all early keys o k (compR f ti all early keys r (k + 1))) t m acc K) _
    unfold compR1
    split
    · rename_i he
      show Le (guardX (compG f all o.guard) t fun b => Bool.rec (motive := fun _ => An) (putX (compDst f o.dst) undefV t fun t => goR ti call nx (compR f ti all early keys r (k + 1)) t m (pushX (keys.contains k) k m acc) K)
        (execX (compO ti f o.op) ti call t m fun v m' => putX (compDst f o.dst) v t fun t => goR ti call nx (compR f ti all early keys r (k + 1)) t m' (pushX (keys.contains k) k m acc) K) b) _
      simp only [opsR, Option.bind_eq_bind, Option.bind_assoc]
      refine guardX_le hR all o.guard fun b => ?_
      cases b with
      | false =>
        refine putX_le hf hR o.dst undefV fun t' h => ?_
        rw [pushX_eq]
        exact ih t' _ m _ h
      | true =>
        rw [he] at hp
        simp only [opR, hp, Option.map_none, Option.bind_assoc]
        refine (execX_le hf hR o.op).trans (Le.bind (opD_mono hc o.op) fun p => ?_)
        refine putX_le hf hR o.dst p.1 fun t' h => ?_
        rw [pushX_eq]
        exact ih t' _ p.2 _ h
    · rename_i ix he
      cases hok : o.op.operands.toList.all (okX f) with
      | false => exact .bot _
      | true =>
        show Le (guardX (compG f all o.guard) t fun b => Bool.rec (motive := fun _ => An) (putX (compDst f o.dst) undefV t fun t => goR ti call nx (compR f ti all early keys r (k + 1)) t m (pushX (keys.contains k) k m acc) K)
          (bindA (allocAt ti (Nat.add nx ix) o.op (smallT (compSL f o.op.operands.toList) t) m) fun p => putX (compDst f o.dst) p.1 t fun t => goR ti call nx (compR f ti all early keys r (k + 1)) t p.2 (pushX (keys.contains k) k m acc) K) b) _
        simp only [opsR, Option.bind_eq_bind, Option.bind_assoc]
        refine guardX_le hR all o.guard fun b => ?_
        cases b with
        | false =>
          refine putX_le hf hR o.dst undefV fun t' h => ?_
          rw [pushX_eq]
          exact ih t' _ m _ h
        | true =>
          rw [he] at hp
          simp only [opR, hp, Option.map_some, Option.bind_assoc]
          rw [bindA_eq, allocAt_congr (smallT_ev hf hR hok)]
          refine Le.bind (.inr rfl) fun p => ?_
          refine putX_le hf hR o.dst p.1 fun t' h => ?_
          rw [pushX_eq]
          exact ih t' _ p.2 _ h
end

/-! ### what is checked behind a region -/
section
variable {ti : Tr TI} {call : CallT} {ops : List Oper} {pl : Plan} {T T' : Tm}
def Agree (ops : List Oper) (T T' : Tm) : Prop := ∀ o ∈ ops, (∀ x ∈ o.op.operands.toList, ev T x = ev T' x) ∧ ∀ d, o.dst = some d → T.get d = T'.get d
theorem wantD_congr (h : Agree ops T T') (g : Option (Nat × Bool)) : wantD ops g T = wantD ops g T' := by
  cases g with
  | none => rfl
  | some q =>
    obtain ⟨j, w⟩ := q
    simp only [wantD]
    cases ho : ops[j]? with
    | none => rfl
    | some o =>
      simp only
      cases hd : o.dst with
      | none => rfl
      | some d => simp only [(h o (List.mem_of_getElem? ho)).2 d hd]
theorem chkRe_congr (h : Agree ops T T') (mp : Mem) (i : Nat) : chkRe ti call ops T mp i = chkRe ti call ops T' mp i := by
  unfold chkRe
  cases ho : ops[i]? with
  | none => rfl
  | some o =>
    have ha := h o (List.mem_of_getElem? ho)
    simp only [wantD_congr h, opD_congr o.op ha.1]
    generalize wantD ops o.guard T' = w
    rcases w with _ | _ | _
    · rfl
    · rfl
    · generalize opD ti call o.op T' mp = q
      rcases q with _ | ⟨u, m'⟩
      · rfl
      · cases hd : o.dst with
        | none => rfl
        | some d => simp only [ha.2 d hd]
theorem rangeAt_congr (h : Agree ops T T') (i : Nat) : rangeAt ti ops T i = rangeAt ti ops T' i := by
  unfold rangeAt
  cases ho : ops[i]? with
  | none => rfl
  | some o =>
    have ha := h o (List.mem_of_getElem? ho)
    simp only [wantD_congr h, rangeOf_congr ha.1]
theorem chkB_congr (h : Agree ops T T') (acc : Acc) : chkB ti call ops pl T acc = chkB ti call ops pl T' acc := by
  unfold chkB
  have h1 : chkPair ti ops T = chkPair ti ops T' := by
    funext q
    simp only [chkPair, rangeAt_congr h]
  have h2 : ∀ mp, chkRe ti call ops T mp = chkRe ti call ops T' mp := fun mp => funext fun i => chkRe_congr h mp i
  simp only [h1, h2]
theorem chkRe_mono {call' : CallT} (hc : CLe call call') {mp : Mem} {i : Nat} (h : chkRe ti call ops T mp i = true) : chkRe ti call' ops T mp i = true := by
  unfold chkRe at h ⊢
  cases ho : ops[i]? with
  | none => rw [ho] at h; cases h
  | some o =>
    simp only [ho] at h ⊢
    split at h
    · rename_i hw
      split at h
      · rename_i u m' d hu hd
        rcases opD_mono (ti := ti) (T := T) (m := mp) hc o.op with e | e
        · rw [e] at hu; cases hu
        · rw [e] at hu
          simp only [hu, hd]
          exact h
      · cases h
    · rfl
    · cases h
theorem chkB_mono {call' : CallT} (hc : CLe call call') {acc : Acc} (h : chkB ti call ops pl T acc = true) : chkB ti call' ops pl T acc = true := by
  unfold chkB at h ⊢
  simp only [Bool.and_eq_true, List.all_eq_true] at h ⊢
  refine ⟨fun q hq => ?_, h.2⟩
  have := h.1 q hq
  split at this
  · simp only [List.all_eq_true] at this ⊢
    exact fun i hi => chkRe_mono hc (this i hi)
  · cases this
end
end Go.Ab.F

namespace Go.Ab.F

section
variable {τ : Type}
/-! ### a region whose order is drawn -/
noncomputable def planX (ti : Tr TI) (call : CallT) (l : RL τ) (n : Nat) (ops : List Oper) (pl : Plan) (s : SL τ) (chk : Bool) (t : τ) (m : Mem) (K : KT τ) : An :=
  onMem m fun h nx => goR ti call nx l t ⟨h, Nat.add nx n⟩ [] fun t' m' acc => Bool.rec (motive := fun _ => An) (K t' m') (test (chkB ti (fun _ _ _ => none) ops pl (smallT s t') acc) (K t' m')) chk
/-- all the registers that a region names -/
def dstL : Option Nat → List Operand
  | some d => [.tmp d]
  | none => []
noncomputable def named (ops : List Oper) : List Operand :=
  List.rec (motive := fun _ => List Operand) [] (fun o _ ih => dstL o.dst ++ (o.op.operands.toList ++ ih)) ops
theorem named_cons (q : Oper) (ops : List Oper) : named (q :: ops) = dstL q.dst ++ (q.op.operands.toList ++ named ops) := rfl
theorem named_op {ops : List Oper} {o : Oper} (h : o ∈ ops) : (∀ x ∈ o.op.operands.toList, x ∈ named ops) ∧ ∀ d, o.dst = some d → Operand.tmp d ∈ named ops := by
  induction ops with
  | nil => cases h
  | cons q ops ih =>
    rw [named_cons]
    rcases List.mem_cons.1 h with rfl | h
    · refine ⟨fun x hx => List.mem_append_right _ (List.mem_append_left _ hx), fun d hd => ?_⟩
      rw [hd]
      exact List.mem_append_left _ (by simp [dstL])
    · have ih := ih h
      exact ⟨fun x hx => List.mem_append_right _ (List.mem_append_right _ (ih.1 x hx)), fun d hd => List.mem_append_right _ (List.mem_append_right _ (ih.2 d hd))⟩
theorem chkB_none {ti : Tr TI} {call : CallT} {ops : List Oper} {pl : Plan} (h : (pl.re.isEmpty && pl.pairs.isEmpty) = true) (T : Tm) (acc : Acc) : chkB ti call ops pl T acc = true := by
  simp only [Bool.and_eq_true, List.isEmpty_iff] at h
  unfold chkB
  rw [h.1, h.2]
  rfl
theorem planX_le {f : RF τ} (hf : RFOk f) {ti : Tr TI} {call call' : CallT} (hc : CLe call call') {ops : List Oper} {pl : Plan} (hn : (named ops).all (okX f) = true) {K : KT τ} {K' : Tm → Mem → An} (hK : KLe f K K') {t : τ} {T : Tm} (hR : f.R t T) (m : Mem) :
    Le (planX ti call (compR f ti ops pl.early (pl.re.map (·.1)) ops 0) pl.early.length ops pl (compSL f (named ops)) (!(pl.re.isEmpty && pl.pairs.isEmpty)) t m K) ((regR ti call' ops pl T m).bind fun p => K' p.1 p.2) := by
  show Le (goR ti call m.nx _ t ⟨m.h, m.nx + pl.early.length⟩ [] _) _
  unfold regR
  simp only [Option.bind_eq_bind, Option.bind_assoc]
  refine goR_le hf hc (K' := fun T m acc => (if chkB ti call' ops pl T acc = true then some (T, m) else none).bind fun p => K' p.1 p.2) (fun t T m acc hR => ?_) ops 0 t T _ [] hR
  have hag : Agree ops (smallT (compSL f (named ops)) t) T := fun o ho => by
    refine ⟨fun x hx => smallT_ev hf hR hn x ((named_op ho).1 x hx), fun d hd => ?_⟩
    have hin := (named_op ho).2 d hd
    rcases smallT_get hf hR (named ops) d with h | ⟨_, h⟩
    · exact h
    · have := h _ hin rfl
      rw [List.all_eq_true] at hn
      rw [hn _ hin] at this
      cases this
  cases hch : (pl.re.isEmpty && pl.pairs.isEmpty) with
  | true =>
    rw [chkB_none (call := call') hch T acc]
    exact hK t T m hR
  | false =>
    show Le (test (chkB ti (fun _ _ _ => none) ops pl (smallT (compSL f (named ops)) t) acc) (K t m)) _
    rw [test_eq]
    split
    · rename_i h
      rw [chkB_congr hag] at h
      rw [chkB_mono (fun _ _ _ => .inl rfl) h]
      exact hK t T m hR
    · exact .bot _

/-! ### code -/
inductive LF (τ : Type) where
  | skip
  | reg (l : CL τ)
  | plan (l : RL τ) (n : Nat) (ops : List Oper) (pl : Plan) (s : SL τ) (chk : Bool)
  | exit (id : Nat)
  | ret
  | bad
inductive CC (τ : Type) where
  | leaf (x : LF τ)
  | lseq (x : LF τ) (y : CC τ)
  | seq (x y : CC τ)
  | cond (c : CX τ) (x y : CC τ)
  | block (id : Nat) (x : CC τ)
  | loop (x : CC τ)
abbrev KX (τ : Type) := Nat → τ → Mem → An
noncomputable def goF (ti : Tr TI) (call : CallT) (x : LF τ) : τ → Mem → KT τ → KT τ → KX τ → An :=
  LF.rec (motive := fun _ => τ → Mem → KT τ → KT τ → KX τ → An) (fun t m Kn _ _ => Kn t m) (fun l t m Kn _ _ => goL ti call l t m Kn)
    (fun l n ops pl s chk t m Kn _ _ => planX ti call l n ops pl s chk t m Kn) (fun id t m _ _ Kx => Kx id t m) (fun t m _ Kr _ => Kr t m) (fun _ _ _ _ _ => none) x
noncomputable def evK (ti : Tr TI) (call : CallT) (n : Nat) (c : CC τ) : τ → Mem → KT τ → KT τ → KX τ → An :=
  CC.rec (motive := fun _ => τ → Mem → KT τ → KT τ → KX τ → An) (goF ti call)
    (fun x _ ih t m Kn Kr Kx => goF ti call x t m (fun t m => ih t m Kn Kr Kx) Kr Kx)
    (fun _ _ ihx ihy t m Kn Kr Kx => ihx t m (fun t m => ihy t m Kn Kr Kx) Kr Kx)
    (fun c _ _ ihx ihy t m Kn Kr Kx => evX c t fun v => onBool v (fun b => Bool.rec (motive := fun _ => An) (ihy t m Kn Kr Kx) (ihx t m Kn Kr Kx) b) none)
    (fun id _ ih t m Kn Kr Kx => ih t m Kn Kr fun j t m => Bool.rec (motive := fun _ => An) (Kx j t m) (Kn t m) (Nat.beq j id))
    (fun _ ih t m _ Kr Kx => Nat.rec (motive := fun _ => KT τ) (fun _ _ => none) (fun _ again t m => ih t m again Kr Kx) n t m) c

noncomputable def compReg (f : RF τ) (ti : Tr TI) (plans : Nat → Option Plan) (id : Nat) (ops : List Oper) (draw : Bool) : LF τ :=
  match draw with
  | false => .reg (compL f ti ops ops)
  | true => match plans id with
    | none => .reg (compL f ti ops ops)
    | some pl => Bool.rec (motive := fun _ => LF τ) .bad (.plan (compR f ti ops pl.early (pl.re.map (·.1)) ops 0) pl.early.length ops pl (compSL f (named ops)) (!(pl.re.isEmpty && pl.pairs.isEmpty))) ((named ops).all (okX f))
noncomputable def compLF (f : RF τ) (ti : Tr TI) (plans : Nat → Option Plan) (c : Code) : LF τ :=
  match c with
  | .skip => .skip
  | .region id ops draw => compReg f ti plans id ops.toList draw
  | .exit id => .exit id
  | .ret => .ret
  | _ => .bad
def isLeaf : Code → Bool
  | .skip | .region .. | .exit _ | .ret => true
  | _ => false
noncomputable def compC (f : RF τ) (ti : Tr TI) (plans : Nat → Option Plan) (c : Code) : CC τ :=
  match c with
  | .seq x y => Bool.rec (motive := fun _ => CC τ) (.seq (compC f ti plans x) (compC f ti plans y)) (.lseq (compLF f ti plans x) (compC f ti plans y)) (isLeaf x)
  | .cond c x y => Bool.rec (motive := fun _ => CC τ) (.leaf .bad) (.cond (compX f c) (compC f ti plans x) (compC f ti plans y)) (okX f c)
  | .block id x => .block id (compC f ti plans x)
  | .loop x => .loop (compC f ti plans x)
  | c => .leaf (compLF f ti plans c)
/-- how many steps of the old form it wants, where each loop goes round n times at most -/
def need (n : Nat) : Code → Nat
  | .seq x y => max (need n x) (need n y) + 1
  | .cond _ x y => max (need n x) (need n y) + 1
  | .block _ x => need n x + 1
  | .loop x => n + need n x + 1
  | _ => 1

def endK (Kn Kr : Tm → Mem → An) (Kx : Nat → Tm → Mem → An) (r : Ex × Tm × Mem) : An :=
  match r with
  | (.normal, t, m) => Kn t m
  | (.ret, t, m) => Kr t m
  | (.exit j, t, m) => Kx j t m

variable {f : RF τ} (hf : RFOk f) {ti : Tr TI} {call call' : CallT} (hc : CLe call call') {plans : Nat → Option Plan}
include hf hc

theorem compReg_le (id : Nat) (ops : List Oper) (draw : Bool) {t : τ} {T : Tm} (hR : f.R t T) (m : Mem) {Kn Kr : KT τ} {Kx : KX τ} {Kn' : Tm → Mem → An} (hn : KLe f Kn Kn') :
    Le (goF ti call (compReg f ti plans id ops draw) t m Kn Kr Kx) ((rgD ti plans call' id ops draw T m).bind fun p => Kn' p.1 p.2) := by
  unfold compReg rgD
  cases draw with
  | false => exact goL_le hf hc hn _ t T m hR
  | true =>
    simp only
    cases plans id with
    | none => exact goL_le hf hc hn _ t T m hR
    | some pl =>
      simp only
      cases hok : (named ops).all (okX f) with
      | false => exact .bot _
      | true => exact planX_le hf hc hok hn hR m
theorem compLF_le (c : Code) (N : Nat) {t : τ} {T : Tm} (hR : f.R t T) (m : Mem) {Kn Kr : KT τ} {Kx : KX τ} {Kn' Kr' : Tm → Mem → An} {Kx' : Nat → Tm → Mem → An} (hn : KLe f Kn Kn') (hr : KLe f Kr Kr') (hx : ∀ j, KLe f (Kx j) (Kx' j)) :
    Le (goF ti call (compLF f ti plans c) t m Kn Kr Kx) ((evC (rgD ti plans call') (N + 1) c T m).bind (endK Kn' Kr' Kx')) := by
  cases c with
  | skip => exact hn t T m hR
  | region id ops draw =>
    have := compReg_le hf hc (ti := ti) (plans := plans) id ops.toList draw hR m (Kn := Kn) (Kr := Kr) (Kx := Kx) hn
    refine this.trans ?_
    simp only [evC]
    cases rgD ti plans call' id ops.toList draw T m <;> exact .refl _
  | exit id => exact hx id t T m hR
  | ret => exact hr t T m hR
  | _ => exact .bot _

theorem evK_le (n : Nat) : ∀ (c : Code) (N : Nat), need n c ≤ N → ∀ (t : τ) (T : Tm) (m : Mem) (Kn Kr : KT τ) (Kx : KX τ) (Kn' Kr' : Tm → Mem → An) (Kx' : Nat → Tm → Mem → An), f.R t T → KLe f Kn Kn' → KLe f Kr Kr' → (∀ j, KLe f (Kx j) (Kx' j)) →
    Le (evK ti call n (compC f ti plans c) t m Kn Kr Kx) ((evC (rgD ti plans call') N c T m).bind (endK Kn' Kr' Kx')) := by
  intro c
  have leaf : ∀ c : Code, need n c = 1 → compC f ti plans c = .leaf (compLF f ti plans c) → ∀ (N : Nat), need n c ≤ N → ∀ (t : τ) (T : Tm) (m : Mem) (Kn Kr : KT τ) (Kx : KX τ) (Kn' Kr' : Tm → Mem → An) (Kx' : Nat → Tm → Mem → An), f.R t T → KLe f Kn Kn' → KLe f Kr Kr' → (∀ j, KLe f (Kx j) (Kx' j)) →
      Le (evK ti call n (compC f ti plans c) t m Kn Kr Kx) ((evC (rgD ti plans call') N c T m).bind (endK Kn' Kr' Kx')) := fun c h1 h2 N hN t T m Kn Kr Kx Kn' Kr' Kx' hR hn hr hx => by
    rw [h2]
    obtain ⟨N, rfl⟩ : ∃ M, N = M + 1 := ⟨N - 1, by omega⟩
    exact compLF_le hf hc c N hR m hn hr hx
  induction c with
  | seq x y ihx ihy =>
    intro N hN t T m Kn Kr Kx Kn' Kr' Kx' hR hn hr hx
    simp only [need] at hN
    obtain ⟨N, rfl⟩ : ∃ M, N = M + 1 := ⟨N - 1, by omega⟩
    have hy : KLe f (fun t m => evK ti call n (compC f ti plans y) t m Kn Kr Kx) (fun T m => (evC (rgD ti plans call') N y T m).bind (endK Kn' Kr' Kx')) := fun t T m hR => ihy N (by omega) t T m Kn Kr Kx Kn' Kr' Kx' hR hn hr hx
    have hE : (evC (rgD ti plans call') (N + 1) (.seq x y) T m).bind (endK Kn' Kr' Kx') = (evC (rgD ti plans call') N x T m).bind (endK (fun T m => (evC (rgD ti plans call') N y T m).bind (endK Kn' Kr' Kx')) Kr' Kx') := by
      simp only [evC]
      cases evC (rgD ti plans call') N x T m with
      | none => rfl
      | some r =>
        obtain ⟨e, t1, m1⟩ := r
        cases e <;> rfl
    rw [hE]
    simp only [compC]
    cases hl : isLeaf x with
    | false => exact ihx N (by omega) t T m _ Kr Kx _ Kr' Kx' hR hy hr hx
    | true =>
      obtain ⟨N, rfl⟩ : ∃ M, N = M + 1 := ⟨N - 1, by cases x <;> simp [isLeaf, need] at * <;> omega⟩
      exact compLF_le hf hc x N hR m hy hr hx
  | cond c x y ihx ihy =>
    intro N hN t T m Kn Kr Kx Kn' Kr' Kx' hR hn hr hx
    simp only [need] at hN
    obtain ⟨N, rfl⟩ : ∃ M, N = M + 1 := ⟨N - 1, by omega⟩
    simp only [compC, evC]
    cases hok : okX f c with
    | false => exact .bot _
    | true =>
      show Le (evX (compX f c) t fun v => onBool v (fun b => Bool.rec (motive := fun _ => An) (evK ti call n (compC f ti plans y) t m Kn Kr Kx) (evK ti call n (compC f ti plans x) t m Kn Kr Kx) b) none) _
      rw [evX_eq hR hok, onBool_eq]
      cases ev T c <;> try exact .bot _
      rename_i b
      cases b with
      | true => exact ihx N (by omega) t T m Kn Kr Kx Kn' Kr' Kx' hR hn hr hx
      | false => exact ihy N (by omega) t T m Kn Kr Kx Kn' Kr' Kx' hR hn hr hx
  | block id x ih =>
    intro N hN t T m Kn Kr Kx Kn' Kr' Kx' hR hn hr hx
    simp only [need] at hN
    obtain ⟨N, rfl⟩ : ∃ M, N = M + 1 := ⟨N - 1, by omega⟩
    refine (ih N (by omega) t T m Kn Kr (fun j t m => Bool.rec (motive := fun _ => An) (Kx j t m) (Kn t m) (Nat.beq j id)) Kn' Kr' (fun j T m => if j = id then Kn' T m else Kx' j T m) hR hn hr fun j t T m hR => ?_).trans ?_
    · simp only [boolRec, Nat.beq_eq]
      split
      · exact hn t T m hR
      · exact hx j t T m hR
    · simp only [evC]
      cases evC (rgD ti plans call') N x T m with
      | none => exact .refl _
      | some r =>
        obtain ⟨e, t1, m1⟩ := r
        cases e with
        | exit j =>
          by_cases h : j = id
          · subst h; simp [endK]; exact .refl _
          · simp [endK, h]; exact .refl _
        | _ => exact .refl _
  | loop x ih =>
    intro N hN t T m Kn Kr Kx Kn' Kr' Kx' hR hn hr hx
    simp only [need] at hN
    have main : ∀ (j N : Nat), j + need n x + 1 ≤ N → ∀ (t : τ) (T : Tm) (m : Mem), f.R t T →
        Le (Nat.rec (motive := fun _ => KT τ) (fun _ _ => none) (fun _ again t m => evK ti call n (compC f ti plans x) t m again Kr Kx) j t m) ((evC (rgD ti plans call') N (.loop x) T m).bind (endK Kn' Kr' Kx')) := by
      intro j
      induction j with
      | zero => intro N _ t T m _; exact .bot _
      | succ j ihj =>
        intro N hN t T m hR
        obtain ⟨N, rfl⟩ : ∃ M, N = M + 1 := ⟨N - 1, by omega⟩
        have hE : (evC (rgD ti plans call') (N + 1) (.loop x) T m).bind (endK Kn' Kr' Kx') = (evC (rgD ti plans call') N x T m).bind (endK (fun T m => (evC (rgD ti plans call') N (.loop x) T m).bind (endK Kn' Kr' Kx')) Kr' Kx') := by
          simp only [evC]
          cases evC (rgD ti plans call') N x T m with
          | none => rfl
          | some r =>
            obtain ⟨e, t1, m1⟩ := r
            cases e <;> rfl
        rw [hE]
        exact ih N (by omega) t T m _ Kr Kx _ Kr' Kx' hR (fun t T m hR => ihj N (by omega) t T m hR) hr hx
    exact main n N (by omega) t T m hR
  | _ => exact leaf _ rfl rfl
end
end Go.Ab.F

namespace Go.Ab.F

section
variable {τ : Type}
/-! ### results -/
inductive CV (τ : Type) where
  | tmp (x : CX τ)
  | cell (sz : Nat) (agg : Bool) (x : CX τ)
  | bad
noncomputable def resX (l : List (CV τ)) : τ → Mem → (List Value → An) → An :=
  List.rec (motive := fun _ => τ → Mem → (List Value → An) → An) (fun _ _ K => K [])
    (fun q _ ih t m K => CV.rec (motive := fun _ => An) (fun x => evX x t fun v => ih t m fun l => K (v :: l))
      (fun sz agg x => evX x t fun p => onPtr p (fun b off => loadX b off sz agg m fun v => ih t m fun l => K (v :: l)) none) none q) l
noncomputable def compV (f : RF τ) (ti : Tr TI) (q : ResultVar) : CV τ :=
  match q with
  | .tmp i => Bool.rec (motive := fun _ => CV τ) .bad (.tmp (compX f (.tmp i))) (okX f (.tmp i))
  | .cell a ty => match ti.get ty with
    | some i => Bool.rec (motive := fun _ => CV τ) .bad (.cell i.size i.agg (compX f (.tmp a))) (okX f (.tmp a))
    | none => .bad
theorem resX_le {f : RF τ} {ti : Tr TI} {t : τ} {T : Tm} (hR : f.R t T) : ∀ (l : List ResultVar) (m : Mem) (K : List Value → An), Le (resX (l.map (compV f ti)) t m K) ((resD ti l T m).bind K)
  | [], _, _ => .refl _
  | .tmp i :: l, m, K => by
    show Le (resX (compV f ti (.tmp i) :: l.map (compV f ti)) t m K) _
    unfold compV
    simp only
    cases hok : okX f (.tmp i) with
    | false => exact .bot _
    | true =>
      show Le (evX (compX f (.tmp i)) t fun v => resX (l.map (compV f ti)) t m fun r => K (v :: r)) _
      rw [evX_eq hR hok]
      simp only [resD, Option.bind_eq_bind, Option.bind_assoc, Option.pure_def, Option.bind_some]
      exact resX_le hR l m _
  | .cell a ty :: l, m, K => by
    show Le (resX (compV f ti (.cell a ty) :: l.map (compV f ti)) t m K) _
    unfold compV
    simp only [resD, Option.bind_eq_bind, Option.bind_assoc]
    cases hi : ti.get ty with
    | none => exact .bot _
    | some i =>
      simp only
      cases hok : okX f (.tmp a) with
      | false => exact .bot _
      | true =>
        show Le (evX (compX f (.tmp a)) t fun p => onPtr p (fun b off => loadX b off i.size i.agg m fun v => resX (l.map (compV f ti)) t m fun r => K (v :: r)) none) _
        rw [evX_eq hR hok, onPtr_eq]
        refine Le.bind (.inr rfl) fun p => ?_
        simp only [Option.bind_some]
        rw [loadX_eq]
        refine Le.bind (.inr rfl) fun v => ?_
        exact resX_le hR l m _

/-! ### arguments -/
noncomputable def argX (args : List Value) : List (SetT τ) → τ → (τ → An) → An :=
  List.rec (motive := fun _ => List (SetT τ) → τ → (τ → An) → An) (fun _ t K => K t) (fun v _ ih S t K => List.rec (motive := fun _ => An) none (fun s S _ => s v t fun t => ih S t K) S) args
theorem argX_le {f : RF τ} (hf : RFOk f) {K : τ → An} {Y : An} : ∀ (args : List Value) (S : List (SetT τ)) (i : Nat), (∀ j, ixL S j = ixL f.S (i + j)) → ∀ (t : τ) (T : Tm), f.R t T → (∀ t', f.R t' (lay args i T) → Le (K t') Y) → Le (argX args S t K) Y
  | [], S, i, _, t, T, hR, hK => hK t hR
  | v :: args, S, i, hS, t, T, hR, hK => by
    cases S with
    | nil => exact .bot _
    | cons s S =>
      have h0 : ixL f.S i = some s := (hS 0).symm
      obtain ⟨t', h1, h2⟩ := hf.s i s h0 v t T hR
      show Le (s v t fun t => argX args S t K) Y
      rw [h1]
      refine argX_le hf args S (i + 1) (fun j => ?_) t' _ h2 hK
      have := hS (j + 1)
      rw [show i + 1 + j = i + (j + 1) by omega, ← this]
      rfl
end

/-! ### functions -/
inductive CF where
  | f3 (n : Nat) (res : List (CV R3)) (body : CC R3)
  | f4 (n : Nat) (res : List (CV R4)) (body : CC R4)
  | bad
section
variable {τ : Type} (ti : Tr TI) (loops : Nat)
noncomputable def retX (res : List (CV τ)) : KT τ := fun t m => resX res t m fun l => some (oneX l, m)
noncomputable def evX1 (f : RF τ) (call : CallT) (args : List Value) (m : Mem) (n : Nat) (res : List (CV τ)) (body : CC τ) : An :=
  test (Nat.ble (lenX args) n) (argX args f.S f.z fun t => evK ti call loops body t m (retX res) (retX res) fun _ _ _ => none)
noncomputable def evFX (cfs : Nat → Option CF) (ext : Nat → List Value → Mem → Option (Value × Mem)) (k : Nat) : CallT :=
  Nat.rec (motive := fun _ => CallT) (fun _ _ _ => none) (fun _ ih g args m => Option.rec (motive := fun _ => An) (ext g args m) (fun cf => CF.rec (motive := fun _ => An) (evX1 ti loops rf3 ih args m) (evX1 ti loops rf4 ih args m) none cf) (cfs g)) k
noncomputable def compF (fuel : Nat) (plans : Nat → Option Plan) (fi : FI) : CF :=
  Bool.rec (motive := fun _ => CF) .bad (Bool.rec (motive := fun _ => CF) (Bool.rec (motive := fun _ => CF) .bad (.f4 fi.ntmps (fi.res.map (compV rf4 ti)) (compC rf4 ti plans fi.body)) (Nat.ble fi.ntmps 256))
    (.f3 fi.ntmps (fi.res.map (compV rf3 ti)) (compC rf3 ti plans fi.body)) (Nat.ble fi.ntmps 64)) (Nat.ble (need loops fi.body) fuel)
end
theorem evX1_le {τ : Type} {f : RF τ} (hf : RFOk f) {ti : Tr TI} {loops fuel : Nat} {call call' : CallT} (hc : CLe call call') {plans : Nat → Option Plan} (fi : FI) (hl : need loops fi.body ≤ fuel) (args : List Value) (m : Mem) :
    Le (evX1 ti loops f call args m fi.ntmps (fi.res.map (compV f ti)) (compC f ti plans fi.body))
      (if args.length ≤ fi.ntmps then match evC (rgD ti plans call') fuel fi.body (lay args 0 .e) m with
        | some (.normal, t, m) => do
          let l ← resD ti fi.res t m
          pure (oneOf l, m)
        | some (.ret, t, m) => do
          let l ← resD ti fi.res t m
          pure (oneOf l, m)
        | _ => none
      else none) := by
  unfold evX1
  rw [test_eq, lenX_eq]
  simp only [Nat.ble_eq]
  split
  case isFalse => exact .refl _
  refine argX_le hf args f.S 0 (fun j => by rw [Nat.zero_add]) f.z .e hf.z fun t hR => ?_
  have hret : KLe f (retX (fi.res.map (compV f ti))) (fun T m => (resD ti fi.res T m).bind fun l => some (oneOf l, m)) := fun t T m hR => by
    unfold retX
    refine (resX_le hR fi.res m _).trans (Le.bind (.inr rfl) fun l => ?_)
    rw [oneX_eq]
    exact .refl _
  refine (evK_le hf hc loops fi.body fuel hl t _ m _ _ _ _ _ (fun _ _ _ => none) hR hret hret fun j t T m _ => .bot _).trans ?_
  cases evC (rgD ti plans call') fuel fi.body (lay args 0 .e) m with
  | none => exact .refl _
  | some r =>
    obtain ⟨e, t1, m1⟩ := r
    cases e <;> exact .refl _

theorem evFX_le {ti : Tr TI} {plans : Nat → Nat → Option Plan} {fns : Nat → Option FI} {cfs : Nat → Option CF} {ext ext' : Nat → List Value → Mem → Option (Value × Mem)} {fuel loops : Nat}
    (hcf : ∀ f, cfs f = (fns f).map (compF ti loops fuel (plans f))) (he : ext' = ext) : ∀ k, CLe (evFX ti loops cfs ext' k) (evF ti (fun f => rgD ti (plans f)) fns ext fuel k)
  | 0 => fun g args m => .inl rfl
  | k + 1 => fun g args m => by
    subst he
    have ih := evFX_le (ti := ti) (plans := plans) (fns := fns) (cfs := cfs) (ext := ext') (ext' := ext') (fuel := fuel) (loops := loops) hcf rfl k
    show Le (Option.rec (motive := fun _ => An) (ext' g args m) (fun cf => CF.rec (motive := fun _ => An) (evX1 ti loops rf3 (evFX ti loops cfs ext' k) args m) (evX1 ti loops rf4 (evFX ti loops cfs ext' k) args m) none cf) (cfs g)) _
    rw [hcf g]
    simp only [evF]
    cases fns g with
    | none => exact .refl _
    | some fi =>
      show Le (CF.rec (motive := fun _ => An) (evX1 ti loops rf3 (evFX ti loops cfs ext' k) args m) (evX1 ti loops rf4 (evFX ti loops cfs ext' k) args m) none (compF ti loops fuel (plans g) fi)) _
      unfold compF
      cases hl : Nat.ble (need loops fi.body) fuel with
      | false => exact .bot _
      | true =>
        rw [Nat.ble_eq] at hl
        cases h3 : Nat.ble fi.ntmps 64 with
        | true => exact evX1_le rf3_ok ih fi hl args m
        | false =>
          cases h4 : Nat.ble fi.ntmps 256 with
          | false => exact .bot _
          | true => exact evX1_le rf4_ok ih fi hl args m
end Go.Ab.F

/- The same once more, each function as one closed term. -/
namespace Go.Ab.F

section
variable {τ : Type}
abbrev Rg (τ : Type) := CallT → τ → Mem → KT τ → An
abbrev Cd (τ : Type) := CallT → τ → Mem → KT τ → KT τ → KX τ → An
noncomputable def getV (g : GetT τ) (t : τ) (K : Value → An) : An := Option.rec (motive := fun _ => An) (K undefV) K (g t)

noncomputable def oN : Rg τ := fun _ t m K => K t m
noncomputable def oC (ti : Tr TI) (op : CO τ) (s : SetT τ) (R : Rg τ) : Rg τ := fun call t m K => execX op ti call t m fun v m => s v t fun t => R call t m K
noncomputable def oG (ti : Tr TI) (g : CG τ) (op : CO τ) (d : DS τ) (R : Rg τ) : Rg τ := fun call t m K =>
  guardX g t fun b => Bool.rec (motive := fun _ => An) (putX d undefV t fun t => R call t m K) (execX op ti call t m fun v m => putX d v t fun t => R call t m K) b
noncomputable def mP (g : GetT τ) (s : SetT τ) (R : Rg τ) : Rg τ := fun call t m K => getV g t fun v => s v t fun t => R call t m K
noncomputable def mV (v : Value) (s : SetT τ) (R : Rg τ) : Rg τ := fun call t m K => s v t fun t => R call t m K
noncomputable def bP (ti : Tr TI) (op : BinOp) (ty : TypeId) (f : BF) (x y : GetT τ) (s : SetT τ) (R : Rg τ) : Rg τ := fun call t m K =>
  getV x t fun u => getV y t fun v => binF f u v (fun r => s r t fun t => R call t m K) (bindA (binD ti op ty u v) fun r => s r t fun t => R call t m K)
noncomputable def bV (ti : Tr TI) (op : BinOp) (ty : TypeId) (f : BF) (x : GetT τ) (v : Value) (s : SetT τ) (R : Rg τ) : Rg τ := fun call t m K =>
  getV x t fun u => binF f u v (fun r => s r t fun t => R call t m K) (bindA (binD ti op ty u v) fun r => s r t fun t => R call t m K)
noncomputable def lP (sz : Nat) (agg : Bool) (g : GetT τ) (s : SetT τ) (R : Rg τ) : Rg τ := fun call t m K =>
  getV g t fun v => onPtr v (fun b off => loadX b off sz agg m fun v => s v t fun t => R call t m K) none
noncomputable def nP (g : GetT τ) (s : SetT τ) (R : Rg τ) : Rg τ := fun call t m K =>
  getV g t fun v => onSome v (fun a => s (.pointer (some a)) t fun t => R call t m K) none
noncomputable def cP (k : IntKind) (g : GetT τ) (s : SetT τ) (R : Rg τ) : Rg τ := fun call t m K =>
  getV g t fun v => convF k v fun r => s r t fun t => R call t m K
noncomputable def fP (o : Nat) (g : GetT τ) (s : SetT τ) (R : Rg τ) : Rg τ := fun call t m K =>
  getV g t fun v => onPtr v (fun b off => s (.pointer (some ⟨b, Nat.add off o, none⟩)) t fun t => R call t m K) none

noncomputable def denO (ti : Tr TI) (op : CO τ) (s : SetT τ) (R : Rg τ) : Rg τ :=
  match op with
  | .mv (.path g) => mP g s R
  | .mv (.val v) => mV v s R
  | .bin op ty f (.path x) (.path y) => bP ti op ty f x y s R
  | .bin op ty f (.path x) (.val v) => bV ti op ty f x v s R
  | .ld sz agg (.path g) => lP sz agg g s R
  | .nilc (.path g) => nP g s R
  | .conv k (.path g) => cP k g s R
  | .fAddr o (.path g) => fP o g s R
  | op => oC ti op s R
theorem denO_eq (ti : Tr TI) (op : CO τ) (s : SetT τ) (R : Rg τ) : denO ti op s R = oC ti op s R := by
  unfold denO
  split <;> rfl
noncomputable def denL (ti : Tr TI) (l : CL τ) : Rg τ :=
  CL.rec (motive := fun _ => Rg τ) oN (fun op s _ ih => denO ti op s ih) (fun g op d _ ih => oG ti g op d ih) l
theorem denL_eq (ti : Tr TI) (l : CL τ) : denL ti l = fun call => goL ti call l := by
  induction l with
  | nil => rfl
  | cons op s r ih =>
    show denO ti op s (denL ti r) = _
    rw [denO_eq, ih]
    rfl
  | gen g op d r ih =>
    show oG ti g op d (denL ti r) = _
    rw [ih]
    rfl

/-! ### code -/
noncomputable def kR (R : Rg τ) : Cd τ := fun call t m Kn _ _ => R call t m Kn
noncomputable def kQ (R : Rg τ) (Y : Cd τ) : Cd τ := fun call t m Kn Kr Kx => R call t m fun t m => Y call t m Kn Kr Kx
noncomputable def kF (ti : Tr TI) (x : LF τ) : Cd τ := fun call t m Kn Kr Kx => goF ti call x t m Kn Kr Kx
noncomputable def kP (ti : Tr TI) (x : LF τ) (Y : Cd τ) : Cd τ := fun call t m Kn Kr Kx => goF ti call x t m (fun t m => Y call t m Kn Kr Kx) Kr Kx
noncomputable def kS (X Y : Cd τ) : Cd τ := fun call t m Kn Kr Kx => X call t m (fun t m => Y call t m Kn Kr Kx) Kr Kx
noncomputable def kC (c : CX τ) (X Y : Cd τ) : Cd τ := fun call t m Kn Kr Kx => evX c t fun v => onBool v (fun b => Bool.rec (motive := fun _ => An) (Y call t m Kn Kr Kx) (X call t m Kn Kr Kx) b) none
noncomputable def kB (id : Nat) (X : Cd τ) : Cd τ := fun call t m Kn Kr Kx => X call t m Kn Kr fun j t m => Bool.rec (motive := fun _ => An) (Kx j t m) (Kn t m) (Nat.beq j id)
noncomputable def kL (n : Nat) (X : Cd τ) : Cd τ := fun call t m _ Kr Kx => Nat.rec (motive := fun _ => KT τ) (fun _ _ => none) (fun _ again t m => X call t m again Kr Kx) n t m
noncomputable def kN : Cd τ := fun _ t m Kn _ _ => Kn t m
noncomputable def kX (id : Nat) : Cd τ := fun _ t m _ _ Kx => Kx id t m
noncomputable def kE : Cd τ := fun _ t m _ Kr _ => Kr t m

noncomputable def denF (ti : Tr TI) (x : LF τ) : Cd τ :=
  match x with
  | .skip => kN
  | .reg l => kR (denL ti l)
  | .exit id => kX id
  | .ret => kE
  | x => kF ti x
noncomputable def denP (ti : Tr TI) (x : LF τ) (Y : Cd τ) : Cd τ :=
  match x with
  | .reg l => kQ (denL ti l) Y
  | x => kP ti x Y
noncomputable def den (ti : Tr TI) (n : Nat) (c : CC τ) : Cd τ :=
  CC.rec (motive := fun _ => Cd τ) (denF ti) (fun x _ ih => denP ti x ih) (fun _ _ ihx ihy => kS ihx ihy) (fun c _ _ ihx ihy => kC c ihx ihy) (fun id _ ih => kB id ih) (fun _ ih => kL n ih) c
theorem denF_eq (ti : Tr TI) (x : LF τ) : denF ti x = fun call => goF ti call x := by
  cases x with
  | reg l =>
    show kR (denL ti l) = _
    rw [denL_eq]
    rfl
  | _ => rfl
theorem denP_eq (ti : Tr TI) (x : LF τ) (Y : Cd τ) : denP ti x Y = fun call t m Kn Kr Kx => goF ti call x t m (fun t m => Y call t m Kn Kr Kx) Kr Kx := by
  cases x with
  | reg l =>
    show kQ (denL ti l) Y = _
    rw [denL_eq]
    rfl
  | _ => rfl
theorem den_eq (ti : Tr TI) (n : Nat) (c : CC τ) : den ti n c = fun call => evK ti call n c := by
  induction c with
  | leaf x => exact denF_eq ti x
  | lseq x y ih =>
    show denP ti x (den ti n y) = _
    rw [denP_eq, ih]
    rfl
  | seq x y ihx ihy =>
    show kS (den ti n x) (den ti n y) = _
    rw [ihx, ihy]
    rfl
  | cond c x y ihx ihy =>
    show kC c (den ti n x) (den ti n y) = _
    rw [ihx, ihy]
    rfl
  | block id x ih =>
    show kB id (den ti n x) = _
    rw [ih]
    rfl
  | loop x ih =>
    show kL n (den ti n x) = _
    rw [ih]
    rfl
end

/-! ### functions -/
abbrev FnT := CallT → List Value → Mem → An
noncomputable def fn3 (n : Nat) (res : List (CV R3)) (X : Cd R3) : FnT := fun call args m => test (Nat.ble (lenX args) n) (argX args sets3 z3 fun t => X call t m (retX res) (retX res) fun _ _ _ => none)
noncomputable def fn4 (n : Nat) (res : List (CV R4)) (X : Cd R4) : FnT := fun call args m => test (Nat.ble (lenX args) n) (argX args sets4 z4 fun t => X call t m (retX res) (retX res) fun _ _ _ => none)
noncomputable def fnB : FnT := fun _ _ _ => none
noncomputable def denC (ti : Tr TI) (loops : Nat) (cf : CF) : FnT :=
  match cf with
  | .f3 n res body => fn3 n res (den ti loops body)
  | .f4 n res body => fn4 n res (den ti loops body)
  | .bad => fnB
theorem denC_eq (ti : Tr TI) (loops : Nat) (cf : CF) : denC ti loops cf = fun call args m => CF.rec (motive := fun _ => An) (evX1 ti loops rf3 call args m) (evX1 ti loops rf4 call args m) none cf := by
  cases cf with
  | f3 n res body =>
    show fn3 n res (den ti loops body) = _
    rw [den_eq]
    rfl
  | f4 n res body =>
    show fn4 n res (den ti loops body) = _
    rw [den_eq]
    rfl
  | bad => rfl
noncomputable def evS (fs : Nat → Option FnT) (ext : Nat → List Value → Mem → Option (Value × Mem)) (k : Nat) : CallT :=
  Nat.rec (motive := fun _ => CallT) (fun _ _ _ => none) (fun _ ih g args m => Option.rec (motive := fun _ => An) (ext g args m) (fun c => c ih args m) (fs g)) k
/-- the functions that are printed are those that are compiled; where none is, nothing is said but by what lies outside -/
def Printed (ti : Tr TI) (loops : Nat) (fs : Nat → Option FnT) (cfs : Nat → Option CF) (ext : Nat → List Value → Mem → Option (Value × Mem)) : Prop :=
  ∀ g, match fs g with
    | some c => ∃ cf, cfs g = some cf ∧ c = denC ti loops cf
    | none => cfs g = none ∨ ∀ args m, ext g args m = none
theorem test_le {b : Bool} {x y : An} (h : Le x y) : Le (test b x) (test b y) := by
  cases b with
  | false => exact .refl _
  | true => exact h
end Go.Ab.F

namespace Go.Ab.F
theorem evS_le {ti : Tr TI} {plans : Nat → Nat → Option Plan} {fns : Nat → Option FI} {cfs : Nat → Option CF} {fs : Nat → Option FnT} {ext ext' : Nat → List Value → Mem → Option (Value × Mem)} {fuel loops : Nat}
    (hcf : ∀ f, cfs f = (fns f).map (compF ti loops fuel (plans f))) (he : ext' = ext) (hp : Printed ti loops fs cfs ext') : ∀ k, CLe (evS fs ext' k) (evF ti (fun f => rgD ti (plans f)) fns ext fuel k)
  | 0 => fun g args m => .inl rfl
  | k + 1 => fun g args m => by
    subst he
    have ih := evS_le (ti := ti) (plans := plans) (fns := fns) (cfs := cfs) (fs := fs) (ext := ext') (ext' := ext') (fuel := fuel) (loops := loops) hcf rfl hp k
    show Le (Option.rec (motive := fun _ => An) (ext' g args m) (fun c => c (evS fs ext' k) args m) (fs g)) _
    have hg := hp g
    cases hf : fs g with
    | none =>
      rw [hf] at hg
      rcases hg with hg | hg
      · rw [hcf g] at hg
        simp only [evF]
        cases hfn : fns g with
        | none => exact .refl _
        | some fi => rw [hfn] at hg; cases hg
      · show Le (ext' g args m) _
        rw [hg]
        exact .bot _
    | some c =>
      rw [hf] at hg
      obtain ⟨cf, h1, rfl⟩ := hg
      rw [hcf g] at h1
      simp only [evF]
      cases hfn : fns g with
      | none => rw [hfn] at h1; cases h1
      | some fi =>
        rw [hfn] at h1
        simp only [Option.map_some, Option.some.injEq] at h1
        subst h1
        show Le (denC ti loops (compF ti loops fuel (plans g) fi) (evS fs ext' k) args m) _
        rw [denC_eq]
        unfold compF
        cases hl : Nat.ble (need loops fi.body) fuel with
        | false => exact .bot _
        | true =>
          rw [Nat.ble_eq] at hl
          cases h3 : Nat.ble fi.ntmps 64 with
          | true => exact evX1_le rf3_ok ih fi hl args m
          | false =>
            cases h4 : Nat.ble fi.ntmps 256 with
            | false => exact .bot _
            | true => exact evX1_le rf4_ok ih fi hl args m
end Go.Ab.F
end
