import Derived.Test.YtibcljekjjjnoaaGreatDoorSa
import Derived.Test.YtibcljekjjjnoaaGreatDoorEa
/- A part of the proof of FanlightNoPort: Ya. -/
set_option linter.all false
open Go Go.Ab
namespace Go.Proofs.YtibcljekjjjnoaaGreatDoor.Top
set_option maxRecDepth 100000

def sL : Code → Code
  | .seq x _ => x
  | _ => .skip
def sR : Code → Code
  | .seq _ y => y
  | _ => .skip
def opsOf : Code → List Oper
  | .region _ ops _ => ops.toList
  | _ => []
def idOf : Code → Nat
  | .region i _ _ => i
  | _ => 0
def opAt (l : List Oper) (i : Nat) : Oper := (l[i]?).getD ⟨none, .move (.const undefV), 0, "", #[], none⟩

noncomputable def c5 : Code := Tryz.f5.body.getD .skip
noncomputable def k1 : Code := sR c5
noncomputable def k2 : Code := sR k1
noncomputable def k3 : Code := sR k2
noncomputable def k4 : Code := sR k3
noncomputable def k5 : Code := sR k4
theorem s0 : c5 = .seq (sL c5) k1 := by kernel_rfl
theorem s1 : k1 = .seq (sL k1) k2 := by kernel_rfl
theorem s2 : k2 = .seq (sL k2) k3 := by kernel_rfl
theorem s3 : k3 = .seq (sL k3) k4 := by kernel_rfl
theorem s4 : k4 = .seq (sL k4) k5 := by kernel_rfl
noncomputable def L1 : List Oper := opsOf (sL k1)
noncomputable def L4 : List Oper := opsOf (sL k4)
theorem r1 : sL k1 = .region (idOf (sL k1)) ⟨L1⟩ false := by kernel_rfl
theorem r4 : sL k4 = .region (idOf (sL k4)) ⟨L4⟩ false := by kernel_rfl
noncomputable def o1 (i : Nat) : Oper := opAt L1 i
noncomputable def o4 (i : Nat) : Oper := opAt L4 i
theorem L1_eq : L1 = o1 0 :: o1 1 :: o1 2 :: L1.drop 3 := by kernel_rfl
theorem L4_eq : L4 = o4 0 :: o4 1 :: o4 2 :: o4 3 :: L4.drop 4 := by kernel_rfl

def inL (l : List Nat) (i : Nat) : Bool := l.any fun j => Nat.beq j i
def DA : Nat → Bool := inL [0, 1]
def DB : Nat → Bool := inL [0, 1, 18, 19]
def DC : Nat → Bool := inL [0, 1, 18, 19, 37, 38]
theorem AB : ∀ i, DB i = false → DA i = false := fun i h => by
  simp only [DB, DA, inL, List.any_cons, List.any_nil, Bool.or_eq_false_iff, Bool.or_false] at *
  exact ⟨h.1, h.2.1⟩
theorem BC : ∀ i, DC i = false → DB i = false := fun i h => by
  simp only [DC, DB, inL, List.any_cons, List.any_nil, Bool.or_eq_false_iff, Bool.or_false] at *
  exact ⟨h.1, h.2.1, h.2.2.1, h.2.2.2.1⟩
theorem AC : ∀ i, DC i = false → DA i = false := fun i h => AB i (BC i h)

theorem tis3 : tis.get 3 = some ti3 := by kernel_rfl
theorem tis28 : tis.get 28 = some ti28 := by kernel_rfl

section
variable {call : Nat → List Value → Mem → Option (Value × Mem)} {pls : Nat → Option Plan} {n : Nat} {T T' : Tm} {m : Mem}

theorem reg1 {p p' : Int} (h : Al DA T T') (hp : T.get 0 = some (.int .i64 p)) (hp' : T'.get 0 = some (.int .i64 p')) (he : (IntKind.u64.wrap p).tmod 8 = (IntKind.u64.wrap p').tmod 8) :
    RC DB (evC (rgD tis pls call) (n + 1) (sL k1) T m) (evC (rgD tis pls call) (n + 1) (sL k1) T' m) := by
  rw [r1]
  simp only [evC, rgD]
  have hL : ∀ T : Tm, opsD tis call L1 L1 T m = opsD tis call L1 (o1 0 :: o1 1 :: o1 2 :: L1.drop 3) T m := fun T => by rw [← L1_eq]
  have key : ∀ (T : Tm) (p : Int), T.get 0 = some (.int .i64 p) → opsD tis call L1 L1 T m = opsD tis call L1 (L1.drop 3) (((T.put 18 (.int .i64 p)).put 19 (.int .u64 (IntKind.u64.wrap p))).put 20 (.int .u64 ((IntKind.u64.wrap p).tmod 8))) m := fun T p hp => by
    rw [hL]
    exact convRem (i0 := 0) (j0 := 18) (j1 := 19) (j2 := 20) (tI := 3) (tU := 28) (c := 8) (y := 28) (by kernel_rfl) (by kernel_rfl) (by kernel_rfl) (by kernel_rfl) (by kernel_rfl) (by kernel_rfl) (by kernel_rfl) (by kernel_rfl) (by kernel_rfl) tis3 tis28 rfl rfl (by decide) (by decide) (by decide) hp
  rw [key T p hp, key T' p' hp', he]
  have hal : Al DB (((T.put 18 (.int .i64 p)).put 19 (.int .u64 (IntKind.u64.wrap p))).put 20 (.int .u64 ((IntKind.u64.wrap p').tmod 8))) (((T'.put 18 (.int .i64 p')).put 19 (.int .u64 (IntKind.u64.wrap p'))).put 20 (.int .u64 ((IntKind.u64.wrap p').tmod 8))) :=
    (((h.more AB).put2 (by rfl) _ _).put2 (by rfl) _ _).put (some 20) _
  rcases opsD_al (ti := tis) (call := call) (D := DB) (all := L1) (L1.drop 3) _ _ m (by kernel_rfl) hal with ⟨h1, h2⟩ | ⟨T1, T1', m1, h1, h2, h3⟩
  · rw [h1, h2]; exact .inl ⟨rfl, rfl⟩
  · rw [h1, h2]; exact .inr ⟨_, _, _, _, rfl, rfl, h3⟩

theorem reg4 {p p' : Int} (h : Al DB T T') (hp : T.get 1 = some (.int .i64 p)) (hp' : T'.get 1 = some (.int .i64 p')) (he : (IntKind.u64.wrap p).tmod 6 = (IntKind.u64.wrap p').tmod 6) :
    RC DC (evC (rgD tis pls call) (n + 1) (sL k4) T m) (evC (rgD tis pls call) (n + 1) (sL k4) T' m) := by
  rw [r4]
  simp only [evC, rgD]
  have hL : ∀ T : Tm, opsD tis call L4 L4 T m = opsD tis call L4 (o4 0 :: o4 1 :: o4 2 :: o4 3 :: L4.drop 4) T m := fun T => by rw [← L4_eq]
  have key : ∀ (T : Tm) (p : Int), T.get 1 = some (.int .i64 p) → opsD tis call L4 L4 T m = opsD tis call L4 (L4.drop 4) ((((T.put 36 (ev T (.tmp 5))).put 37 (.int .i64 p)).put 38 (.int .u64 (IntKind.u64.wrap p))).put 39 (.int .u64 ((IntKind.u64.wrap p).tmod 6))) m := fun T p hp => by
    rw [hL]
    have e0 : (o4 0).op = .move (.tmp 5) := by kernel_rfl
    have st : opD tis call (o4 0).op T m = some (ev T (.tmp 5), m) := by rw [e0]; rfl
    rw [opsD_step (d := 36) (by kernel_rfl) (by kernel_rfl) st]
    refine convRem (i0 := 1) (j0 := 37) (j1 := 38) (j2 := 39) (tI := 3) (tU := 28) (c := 6) (y := 28) (by kernel_rfl) (by kernel_rfl) (by kernel_rfl) (by kernel_rfl) (by kernel_rfl) (by kernel_rfl) (by kernel_rfl) (by kernel_rfl) (by kernel_rfl) tis3 tis28 rfl rfl (by decide) (by decide) (by decide) ?_
    rw [Tr.get_put_ne _ _ (by decide)]
    exact hp
  rw [key T p hp, key T' p' hp', he, ev_al h (o := .tmp 5) (by rfl)]
  have hal : Al DC ((((T.put 36 (ev T' (.tmp 5))).put 37 (.int .i64 p)).put 38 (.int .u64 (IntKind.u64.wrap p))).put 39 (.int .u64 ((IntKind.u64.wrap p').tmod 6))) ((((T'.put 36 (ev T' (.tmp 5))).put 37 (.int .i64 p')).put 38 (.int .u64 (IntKind.u64.wrap p'))).put 39 (.int .u64 ((IntKind.u64.wrap p').tmod 6))) :=
    (((((h.more BC).put (some 36) _).put2 (by rfl) _ _).put2 (by rfl) _ _).put (some 39) _)
  rcases opsD_al (ti := tis) (call := call) (D := DC) (all := L4) (L4.drop 4) _ _ m (by kernel_rfl) hal with ⟨h1, h2⟩ | ⟨T1, T1', m1, h1, h2, h3⟩
  · rw [h1, h2]; exact .inl ⟨rfl, rfl⟩
  · rw [h1, h2]; exact .inr ⟨_, _, _, _, rfl, rfl, h3⟩

theorem body_same {p p' q q' : Int} (h : Al DA T T') (hp : T.get 0 = some (.int .i64 p)) (hp' : T'.get 0 = some (.int .i64 p')) (hq : T.get 1 = some (.int .i64 q)) (hq' : T'.get 1 = some (.int .i64 q'))
    (he : (IntKind.u64.wrap p).tmod 8 = (IntKind.u64.wrap p').tmod 8) (hf : (IntKind.u64.wrap q).tmod 6 = (IntKind.u64.wrap q').tmod 6) :
    RC DC (evC (rgD tis pls call) (n + 6) c5 T m) (evC (rgD tis pls call) (n + 6) c5 T' m) := by
  rw [s0]
  refine RC.seq (n := n + 5) AC (evC_al (n + 5) (sL c5) T T' m (by kernel_rfl) h) fun T1 T1' m1 g1 g1' h1 => ?_
  have a1 := (evC_keep (j := 0) _ _ _ _ _ _ _ (by kernel_rfl) g1).trans hp
  have a1' := (evC_keep (j := 0) _ _ _ _ _ _ _ (by kernel_rfl) g1').trans hp'
  have b1 := (evC_keep (j := 1) _ _ _ _ _ _ _ (by kernel_rfl) g1).trans hq
  have b1' := (evC_keep (j := 1) _ _ _ _ _ _ _ (by kernel_rfl) g1').trans hq'
  rw [s1]
  refine RC.seq (n := n + 4) BC (reg1 (n := n + 3) h1 a1 a1' he) fun T2 T2' m2 g2 g2' h2 => ?_
  have b2 := (evC_keep (j := 1) _ _ _ _ _ _ _ (by kernel_rfl) g2).trans b1
  have b2' := (evC_keep (j := 1) _ _ _ _ _ _ _ (by kernel_rfl) g2').trans b1'
  rw [s2]
  refine RC.seq (n := n + 3) BC (evC_al (n + 3) (sL k2) T2 T2' m2 (by kernel_rfl) h2) fun T3 T3' m3 g3 g3' h3 => ?_
  have b3 := (evC_keep (j := 1) _ _ _ _ _ _ _ (by kernel_rfl) g3).trans b2
  have b3' := (evC_keep (j := 1) _ _ _ _ _ _ _ (by kernel_rfl) g3').trans b2'
  rw [s3]
  refine RC.seq (n := n + 2) BC (evC_al (n + 2) (sL k3) T3 T3' m3 (by kernel_rfl) h3) fun T4 T4' m4 g4 g4' h4 => ?_
  have b4 := (evC_keep (j := 1) _ _ _ _ _ _ _ (by kernel_rfl) g4).trans b3
  have b4' := (evC_keep (j := 1) _ _ _ _ _ _ _ (by kernel_rfl) g4').trans b3'
  rw [s4]
  refine RC.seq (n := n + 1) (fun _ h => h) (reg4 (n := n) h4 b4 b4' hf) fun T5 T5' m5 _ _ h5 => ?_
  exact evC_al (n + 1) k5 T5 T5' m5 (by kernel_rfl) h5
end

theorem fns5 : fns 5 = some (ofFunc Tryz.f5) := by kernel_rfl
theorem res5 : Tryz.f5.results.toList = [.tmp 4] := by kernel_rfl
theorem nt5 : Tryz.f5.ntmps = 168 := by kernel_rfl
theorem np_same (p q p' q' : Int) (he : (IntKind.u64.wrap p).tmod 8 = (IntKind.u64.wrap p').tmod 8) (hf : (IntKind.u64.wrap q).tmod 6 = (IntKind.u64.wrap q').tmod 6) (k n : Nat) (m : Mem) :
    saysTrue (run (n + 6) (k + 1) 5 [.int .i64 p, .int .i64 q] m) = saysTrue (run (n + 6) (k + 1) 5 [.int .i64 p', .int .i64 q'] m) := by
  have hrun : ∀ a b : Int, run (n + 6) (k + 1) 5 [.int .i64 a, .int .i64 b] m =
      match evC (rgD tis (plans 5) (evF tis (fun f => rgD tis (plans f)) fns ext (n + 6) k)) (n + 6) c5 (lay [.int .i64 a, .int .i64 b] 0 .e) m with
      | some (.normal, T, m) => some (ev T (.tmp 4), m)
      | some (.ret, T, m) => some (ev T (.tmp 4), m)
      | _ => none := fun a b => by
    unfold run
    simp only [evF, fns5]
    rw [if_pos (by show 2 ≤ Tryz.f5.ntmps; rw [nt5]; decide)]
    have hb : (ofFunc Tryz.f5).body = c5 := rfl
    have hr : (ofFunc Tryz.f5).res = [.tmp 4] := res5
    rw [hb, hr]
    cases evC (rgD tis (plans 5) (evF tis (fun f => rgD tis (plans f)) fns ext (n + 6) k)) (n + 6) c5 (lay [.int .i64 a, .int .i64 b] 0 .e) m with
    | none => rfl
    | some r =>
      obtain ⟨e, T, m⟩ := r
      cases e <;> rfl
  rw [hrun, hrun]
  have hal : Al DA (lay [.int .i64 p, .int .i64 q] 0 .e) (lay [.int .i64 p', .int .i64 q'] 0 .e) :=
    ((Al.refl DA .e).put2 (d := 0) (by rfl) (.int .i64 p) (.int .i64 p')).put2 (d := 1) (by rfl) (.int .i64 q) (.int .i64 q')
  have g0 : ∀ a b : Int, (lay [.int .i64 a, .int .i64 b] 0 .e).get 0 = some (.int .i64 a) := fun a b => rfl
  have g1 : ∀ a b : Int, (lay [.int .i64 a, .int .i64 b] 0 .e).get 1 = some (.int .i64 b) := fun a b => rfl
  rcases body_same (n := n) (m := m) (pls := plans 5) (call := evF tis (fun f => rgD tis (plans f)) fns ext (n + 6) k) hal (g0 p q) (g0 p' q') (g1 p q) (g1 p' q') he hf with ⟨h1, h2⟩ | ⟨e, T1, T1', m1, h1, h2, h3⟩
  · rw [h1, h2]
  · rw [h1, h2]
    have h4 : ev T1 (.tmp 4) = ev T1' (.tmp 4) := ev_al h3 (by rfl)
    cases e with
    | normal => simp only [h4]
    | ret => simp only [h4]
    | exit j => rfl
end Go.Proofs.YtibcljekjjjnoaaGreatDoor.Top
