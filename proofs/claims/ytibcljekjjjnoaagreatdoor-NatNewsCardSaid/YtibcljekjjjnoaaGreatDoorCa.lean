import Derived.Test.YtibcljekjjjnoaaGreatDoorBa
/- A part of the proof of FanlightNoPort: Ca. -/
set_option linter.all false
noncomputable section
/- Registers as a tree of fours: how each is read and how each is laid, one closed term each. -/
namespace Go.Ab.F

structure N4 (α : Type) where
  a : α
  b : α
  c : α
  d : α
abbrev R3 := N4 (N4 (N4 (Option Value)))
abbrev R4 := N4 (N4 (N4 (N4 (Option Value))))
abbrev GetT (τ : Type) := τ → Option Value
abbrev SetT (τ : Type) := Value → τ → (τ → An) → An

def a0 : GetT R3 := fun t => t.a.a.a
def a1 : GetT R3 := fun t => t.b.a.a
def a2 : GetT R3 := fun t => t.c.a.a
def a3 : GetT R3 := fun t => t.d.a.a
def a4 : GetT R3 := fun t => t.a.b.a
def a5 : GetT R3 := fun t => t.b.b.a
def a6 : GetT R3 := fun t => t.c.b.a
def a7 : GetT R3 := fun t => t.d.b.a
def a8 : GetT R3 := fun t => t.a.c.a
def a9 : GetT R3 := fun t => t.b.c.a
def a10 : GetT R3 := fun t => t.c.c.a
def a11 : GetT R3 := fun t => t.d.c.a
def a12 : GetT R3 := fun t => t.a.d.a
def a13 : GetT R3 := fun t => t.b.d.a
def a14 : GetT R3 := fun t => t.c.d.a
def a15 : GetT R3 := fun t => t.d.d.a
def a16 : GetT R3 := fun t => t.a.a.b
def a17 : GetT R3 := fun t => t.b.a.b
def a18 : GetT R3 := fun t => t.c.a.b
def a19 : GetT R3 := fun t => t.d.a.b
def a20 : GetT R3 := fun t => t.a.b.b
def a21 : GetT R3 := fun t => t.b.b.b
def a22 : GetT R3 := fun t => t.c.b.b
def a23 : GetT R3 := fun t => t.d.b.b
def a24 : GetT R3 := fun t => t.a.c.b
def a25 : GetT R3 := fun t => t.b.c.b
def a26 : GetT R3 := fun t => t.c.c.b
def a27 : GetT R3 := fun t => t.d.c.b
def a28 : GetT R3 := fun t => t.a.d.b
def a29 : GetT R3 := fun t => t.b.d.b
def a30 : GetT R3 := fun t => t.c.d.b
def a31 : GetT R3 := fun t => t.d.d.b
def a32 : GetT R3 := fun t => t.a.a.c
def a33 : GetT R3 := fun t => t.b.a.c
def a34 : GetT R3 := fun t => t.c.a.c
def a35 : GetT R3 := fun t => t.d.a.c
def a36 : GetT R3 := fun t => t.a.b.c
def a37 : GetT R3 := fun t => t.b.b.c
def a38 : GetT R3 := fun t => t.c.b.c
def a39 : GetT R3 := fun t => t.d.b.c
def a40 : GetT R3 := fun t => t.a.c.c
def a41 : GetT R3 := fun t => t.b.c.c
def a42 : GetT R3 := fun t => t.c.c.c
def a43 : GetT R3 := fun t => t.d.c.c
def a44 : GetT R3 := fun t => t.a.d.c
def a45 : GetT R3 := fun t => t.b.d.c
def a46 : GetT R3 := fun t => t.c.d.c
def a47 : GetT R3 := fun t => t.d.d.c
def a48 : GetT R3 := fun t => t.a.a.d
def a49 : GetT R3 := fun t => t.b.a.d
def a50 : GetT R3 := fun t => t.c.a.d
def a51 : GetT R3 := fun t => t.d.a.d
def a52 : GetT R3 := fun t => t.a.b.d
def a53 : GetT R3 := fun t => t.b.b.d
def a54 : GetT R3 := fun t => t.c.b.d
def a55 : GetT R3 := fun t => t.d.b.d
def a56 : GetT R3 := fun t => t.a.c.d
def a57 : GetT R3 := fun t => t.b.c.d
def a58 : GetT R3 := fun t => t.c.c.d
def a59 : GetT R3 := fun t => t.d.c.d
def a60 : GetT R3 := fun t => t.a.d.d
def a61 : GetT R3 := fun t => t.b.d.d
def a62 : GetT R3 := fun t => t.c.d.d
def a63 : GetT R3 := fun t => t.d.d.d
noncomputable def A0 : SetT R3 := fun v t K => N4.rec (motive := fun _ => An) (fun a0 b0 c0 d0 => N4.rec (motive := fun _ => An) (fun a1 b1 c1 d1 => N4.rec (motive := fun _ => An) (fun a2 b2 c2 d2 => K ⟨⟨⟨(some v), b2, c2, d2⟩, b1, c1, d1⟩, b0, c0, d0⟩) a1) a0) t
noncomputable def A1 : SetT R3 := fun v t K => N4.rec (motive := fun _ => An) (fun a0 b0 c0 d0 => N4.rec (motive := fun _ => An) (fun a1 b1 c1 d1 => N4.rec (motive := fun _ => An) (fun a2 b2 c2 d2 => K ⟨a0, ⟨⟨(some v), b2, c2, d2⟩, b1, c1, d1⟩, c0, d0⟩) a1) b0) t
noncomputable def A2 : SetT R3 := fun v t K => N4.rec (motive := fun _ => An) (fun a0 b0 c0 d0 => N4.rec (motive := fun _ => An) (fun a1 b1 c1 d1 => N4.rec (motive := fun _ => An) (fun a2 b2 c2 d2 => K ⟨a0, b0, ⟨⟨(some v), b2, c2, d2⟩, b1, c1, d1⟩, d0⟩) a1) c0) t
noncomputable def A3 : SetT R3 := fun v t K => N4.rec (motive := fun _ => An) (fun a0 b0 c0 d0 => N4.rec (motive := fun _ => An) (fun a1 b1 c1 d1 => N4.rec (motive := fun _ => An) (fun a2 b2 c2 d2 => K ⟨a0, b0, c0, ⟨⟨(some v), b2, c2, d2⟩, b1, c1, d1⟩⟩) a1) d0) t
noncomputable def A4 : SetT R3 := fun v t K => N4.rec (motive := fun _ => An) (fun a0 b0 c0 d0 => N4.rec (motive := fun _ => An) (fun a1 b1 c1 d1 => N4.rec (motive := fun _ => An) (fun a2 b2 c2 d2 => K ⟨⟨a1, ⟨(some v), b2, c2, d2⟩, c1, d1⟩, b0, c0, d0⟩) b1) a0) t
noncomputable def A5 : SetT R3 := fun v t K => N4.rec (motive := fun _ => An) (fun a0 b0 c0 d0 => N4.rec (motive := fun _ => An) (fun a1 b1 c1 d1 => N4.rec (motive := fun _ => An) (fun a2 b2 c2 d2 => K ⟨a0, ⟨a1, ⟨(some v), b2, c2, d2⟩, c1, d1⟩, c0, d0⟩) b1) b0) t
noncomputable def A6 : SetT R3 := fun v t K => N4.rec (motive := fun _ => An) (fun a0 b0 c0 d0 => N4.rec (motive := fun _ => An) (fun a1 b1 c1 d1 => N4.rec (motive := fun _ => An) (fun a2 b2 c2 d2 => K ⟨a0, b0, ⟨a1, ⟨(some v), b2, c2, d2⟩, c1, d1⟩, d0⟩) b1) c0) t
noncomputable def A7 : SetT R3 := fun v t K => N4.rec (motive := fun _ => An) (fun a0 b0 c0 d0 => N4.rec (motive := fun _ => An) (fun a1 b1 c1 d1 => N4.rec (motive := fun _ => An) (fun a2 b2 c2 d2 => K ⟨a0, b0, c0, ⟨a1, ⟨(some v), b2, c2, d2⟩, c1, d1⟩⟩) b1) d0) t
noncomputable def A8 : SetT R3 := fun v t K => N4.rec (motive := fun _ => An) (fun a0 b0 c0 d0 => N4.rec (motive := fun _ => An) (fun a1 b1 c1 d1 => N4.rec (motive := fun _ => An) (fun a2 b2 c2 d2 => K ⟨⟨a1, b1, ⟨(some v), b2, c2, d2⟩, d1⟩, b0, c0, d0⟩) c1) a0) t
noncomputable def A9 : SetT R3 := fun v t K => N4.rec (motive := fun _ => An) (fun a0 b0 c0 d0 => N4.rec (motive := fun _ => An) (fun a1 b1 c1 d1 => N4.rec (motive := fun _ => An) (fun a2 b2 c2 d2 => K ⟨a0, ⟨a1, b1, ⟨(some v), b2, c2, d2⟩, d1⟩, c0, d0⟩) c1) b0) t
noncomputable def A10 : SetT R3 := fun v t K => N4.rec (motive := fun _ => An) (fun a0 b0 c0 d0 => N4.rec (motive := fun _ => An) (fun a1 b1 c1 d1 => N4.rec (motive := fun _ => An) (fun a2 b2 c2 d2 => K ⟨a0, b0, ⟨a1, b1, ⟨(some v), b2, c2, d2⟩, d1⟩, d0⟩) c1) c0) t
noncomputable def A11 : SetT R3 := fun v t K => N4.rec (motive := fun _ => An) (fun a0 b0 c0 d0 => N4.rec (motive := fun _ => An) (fun a1 b1 c1 d1 => N4.rec (motive := fun _ => An) (fun a2 b2 c2 d2 => K ⟨a0, b0, c0, ⟨a1, b1, ⟨(some v), b2, c2, d2⟩, d1⟩⟩) c1) d0) t
noncomputable def A12 : SetT R3 := fun v t K => N4.rec (motive := fun _ => An) (fun a0 b0 c0 d0 => N4.rec (motive := fun _ => An) (fun a1 b1 c1 d1 => N4.rec (motive := fun _ => An) (fun a2 b2 c2 d2 => K ⟨⟨a1, b1, c1, ⟨(some v), b2, c2, d2⟩⟩, b0, c0, d0⟩) d1) a0) t
noncomputable def A13 : SetT R3 := fun v t K => N4.rec (motive := fun _ => An) (fun a0 b0 c0 d0 => N4.rec (motive := fun _ => An) (fun a1 b1 c1 d1 => N4.rec (motive := fun _ => An) (fun a2 b2 c2 d2 => K ⟨a0, ⟨a1, b1, c1, ⟨(some v), b2, c2, d2⟩⟩, c0, d0⟩) d1) b0) t
noncomputable def A14 : SetT R3 := fun v t K => N4.rec (motive := fun _ => An) (fun a0 b0 c0 d0 => N4.rec (motive := fun _ => An) (fun a1 b1 c1 d1 => N4.rec (motive := fun _ => An) (fun a2 b2 c2 d2 => K ⟨a0, b0, ⟨a1, b1, c1, ⟨(some v), b2, c2, d2⟩⟩, d0⟩) d1) c0) t
noncomputable def A15 : SetT R3 := fun v t K => N4.rec (motive := fun _ => An) (fun a0 b0 c0 d0 => N4.rec (motive := fun _ => An) (fun a1 b1 c1 d1 => N4.rec (motive := fun _ => An) (fun a2 b2 c2 d2 => K ⟨a0, b0, c0, ⟨a1, b1, c1, ⟨(some v), b2, c2, d2⟩⟩⟩) d1) d0) t
noncomputable def A16 : SetT R3 := fun v t K => N4.rec (motive := fun _ => An) (fun a0 b0 c0 d0 => N4.rec (motive := fun _ => An) (fun a1 b1 c1 d1 => N4.rec (motive := fun _ => An) (fun a2 b2 c2 d2 => K ⟨⟨⟨a2, (some v), c2, d2⟩, b1, c1, d1⟩, b0, c0, d0⟩) a1) a0) t
noncomputable def A17 : SetT R3 := fun v t K => N4.rec (motive := fun _ => An) (fun a0 b0 c0 d0 => N4.rec (motive := fun _ => An) (fun a1 b1 c1 d1 => N4.rec (motive := fun _ => An) (fun a2 b2 c2 d2 => K ⟨a0, ⟨⟨a2, (some v), c2, d2⟩, b1, c1, d1⟩, c0, d0⟩) a1) b0) t
noncomputable def A18 : SetT R3 := fun v t K => N4.rec (motive := fun _ => An) (fun a0 b0 c0 d0 => N4.rec (motive := fun _ => An) (fun a1 b1 c1 d1 => N4.rec (motive := fun _ => An) (fun a2 b2 c2 d2 => K ⟨a0, b0, ⟨⟨a2, (some v), c2, d2⟩, b1, c1, d1⟩, d0⟩) a1) c0) t
noncomputable def A19 : SetT R3 := fun v t K => N4.rec (motive := fun _ => An) (fun a0 b0 c0 d0 => N4.rec (motive := fun _ => An) (fun a1 b1 c1 d1 => N4.rec (motive := fun _ => An) (fun a2 b2 c2 d2 => K ⟨a0, b0, c0, ⟨⟨a2, (some v), c2, d2⟩, b1, c1, d1⟩⟩) a1) d0) t
noncomputable def A20 : SetT R3 := fun v t K => N4.rec (motive := fun _ => An) (fun a0 b0 c0 d0 => N4.rec (motive := fun _ => An) (fun a1 b1 c1 d1 => N4.rec (motive := fun _ => An) (fun a2 b2 c2 d2 => K ⟨⟨a1, ⟨a2, (some v), c2, d2⟩, c1, d1⟩, b0, c0, d0⟩) b1) a0) t
noncomputable def A21 : SetT R3 := fun v t K => N4.rec (motive := fun _ => An) (fun a0 b0 c0 d0 => N4.rec (motive := fun _ => An) (fun a1 b1 c1 d1 => N4.rec (motive := fun _ => An) (fun a2 b2 c2 d2 => K ⟨a0, ⟨a1, ⟨a2, (some v), c2, d2⟩, c1, d1⟩, c0, d0⟩) b1) b0) t
noncomputable def A22 : SetT R3 := fun v t K => N4.rec (motive := fun _ => An) (fun a0 b0 c0 d0 => N4.rec (motive := fun _ => An) (fun a1 b1 c1 d1 => N4.rec (motive := fun _ => An) (fun a2 b2 c2 d2 => K ⟨a0, b0, ⟨a1, ⟨a2, (some v), c2, d2⟩, c1, d1⟩, d0⟩) b1) c0) t
noncomputable def A23 : SetT R3 := fun v t K => N4.rec (motive := fun _ => An) (fun a0 b0 c0 d0 => N4.rec (motive := fun _ => An) (fun a1 b1 c1 d1 => N4.rec (motive := fun _ => An) (fun a2 b2 c2 d2 => K ⟨a0, b0, c0, ⟨a1, ⟨a2, (some v), c2, d2⟩, c1, d1⟩⟩) b1) d0) t
noncomputable def A24 : SetT R3 := fun v t K => N4.rec (motive := fun _ => An) (fun a0 b0 c0 d0 => N4.rec (motive := fun _ => An) (fun a1 b1 c1 d1 => N4.rec (motive := fun _ => An) (fun a2 b2 c2 d2 => K ⟨⟨a1, b1, ⟨a2, (some v), c2, d2⟩, d1⟩, b0, c0, d0⟩) c1) a0) t
noncomputable def A25 : SetT R3 := fun v t K => N4.rec (motive := fun _ => An) (fun a0 b0 c0 d0 => N4.rec (motive := fun _ => An) (fun a1 b1 c1 d1 => N4.rec (motive := fun _ => An) (fun a2 b2 c2 d2 => K ⟨a0, ⟨a1, b1, ⟨a2, (some v), c2, d2⟩, d1⟩, c0, d0⟩) c1) b0) t
noncomputable def A26 : SetT R3 := fun v t K => N4.rec (motive := fun _ => An) (fun a0 b0 c0 d0 => N4.rec (motive := fun _ => An) (fun a1 b1 c1 d1 => N4.rec (motive := fun _ => An) (fun a2 b2 c2 d2 => K ⟨a0, b0, ⟨a1, b1, ⟨a2, (some v), c2, d2⟩, d1⟩, d0⟩) c1) c0) t
noncomputable def A27 : SetT R3 := fun v t K => N4.rec (motive := fun _ => An) (fun a0 b0 c0 d0 => N4.rec (motive := fun _ => An) (fun a1 b1 c1 d1 => N4.rec (motive := fun _ => An) (fun a2 b2 c2 d2 => K ⟨a0, b0, c0, ⟨a1, b1, ⟨a2, (some v), c2, d2⟩, d1⟩⟩) c1) d0) t
noncomputable def A28 : SetT R3 := fun v t K => N4.rec (motive := fun _ => An) (fun a0 b0 c0 d0 => N4.rec (motive := fun _ => An) (fun a1 b1 c1 d1 => N4.rec (motive := fun _ => An) (fun a2 b2 c2 d2 => K ⟨⟨a1, b1, c1, ⟨a2, (some v), c2, d2⟩⟩, b0, c0, d0⟩) d1) a0) t
noncomputable def A29 : SetT R3 := fun v t K => N4.rec (motive := fun _ => An) (fun a0 b0 c0 d0 => N4.rec (motive := fun _ => An) (fun a1 b1 c1 d1 => N4.rec (motive := fun _ => An) (fun a2 b2 c2 d2 => K ⟨a0, ⟨a1, b1, c1, ⟨a2, (some v), c2, d2⟩⟩, c0, d0⟩) d1) b0) t
noncomputable def A30 : SetT R3 := fun v t K => N4.rec (motive := fun _ => An) (fun a0 b0 c0 d0 => N4.rec (motive := fun _ => An) (fun a1 b1 c1 d1 => N4.rec (motive := fun _ => An) (fun a2 b2 c2 d2 => K ⟨a0, b0, ⟨a1, b1, c1, ⟨a2, (some v), c2, d2⟩⟩, d0⟩) d1) c0) t
noncomputable def A31 : SetT R3 := fun v t K => N4.rec (motive := fun _ => An) (fun a0 b0 c0 d0 => N4.rec (motive := fun _ => An) (fun a1 b1 c1 d1 => N4.rec (motive := fun _ => An) (fun a2 b2 c2 d2 => K ⟨a0, b0, c0, ⟨a1, b1, c1, ⟨a2, (some v), c2, d2⟩⟩⟩) d1) d0) t
noncomputable def A32 : SetT R3 := fun v t K => N4.rec (motive := fun _ => An) (fun a0 b0 c0 d0 => N4.rec (motive := fun _ => An) (fun a1 b1 c1 d1 => N4.rec (motive := fun _ => An) (fun a2 b2 c2 d2 => K ⟨⟨⟨a2, b2, (some v), d2⟩, b1, c1, d1⟩, b0, c0, d0⟩) a1) a0) t
noncomputable def A33 : SetT R3 := fun v t K => N4.rec (motive := fun _ => An) (fun a0 b0 c0 d0 => N4.rec (motive := fun _ => An) (fun a1 b1 c1 d1 => N4.rec (motive := fun _ => An) (fun a2 b2 c2 d2 => K ⟨a0, ⟨⟨a2, b2, (some v), d2⟩, b1, c1, d1⟩, c0, d0⟩) a1) b0) t
noncomputable def A34 : SetT R3 := fun v t K => N4.rec (motive := fun _ => An) (fun a0 b0 c0 d0 => N4.rec (motive := fun _ => An) (fun a1 b1 c1 d1 => N4.rec (motive := fun _ => An) (fun a2 b2 c2 d2 => K ⟨a0, b0, ⟨⟨a2, b2, (some v), d2⟩, b1, c1, d1⟩, d0⟩) a1) c0) t
noncomputable def A35 : SetT R3 := fun v t K => N4.rec (motive := fun _ => An) (fun a0 b0 c0 d0 => N4.rec (motive := fun _ => An) (fun a1 b1 c1 d1 => N4.rec (motive := fun _ => An) (fun a2 b2 c2 d2 => K ⟨a0, b0, c0, ⟨⟨a2, b2, (some v), d2⟩, b1, c1, d1⟩⟩) a1) d0) t
noncomputable def A36 : SetT R3 := fun v t K => N4.rec (motive := fun _ => An) (fun a0 b0 c0 d0 => N4.rec (motive := fun _ => An) (fun a1 b1 c1 d1 => N4.rec (motive := fun _ => An) (fun a2 b2 c2 d2 => K ⟨⟨a1, ⟨a2, b2, (some v), d2⟩, c1, d1⟩, b0, c0, d0⟩) b1) a0) t
noncomputable def A37 : SetT R3 := fun v t K => N4.rec (motive := fun _ => An) (fun a0 b0 c0 d0 => N4.rec (motive := fun _ => An) (fun a1 b1 c1 d1 => N4.rec (motive := fun _ => An) (fun a2 b2 c2 d2 => K ⟨a0, ⟨a1, ⟨a2, b2, (some v), d2⟩, c1, d1⟩, c0, d0⟩) b1) b0) t
noncomputable def A38 : SetT R3 := fun v t K => N4.rec (motive := fun _ => An) (fun a0 b0 c0 d0 => N4.rec (motive := fun _ => An) (fun a1 b1 c1 d1 => N4.rec (motive := fun _ => An) (fun a2 b2 c2 d2 => K ⟨a0, b0, ⟨a1, ⟨a2, b2, (some v), d2⟩, c1, d1⟩, d0⟩) b1) c0) t
noncomputable def A39 : SetT R3 := fun v t K => N4.rec (motive := fun _ => An) (fun a0 b0 c0 d0 => N4.rec (motive := fun _ => An) (fun a1 b1 c1 d1 => N4.rec (motive := fun _ => An) (fun a2 b2 c2 d2 => K ⟨a0, b0, c0, ⟨a1, ⟨a2, b2, (some v), d2⟩, c1, d1⟩⟩) b1) d0) t
noncomputable def A40 : SetT R3 := fun v t K => N4.rec (motive := fun _ => An) (fun a0 b0 c0 d0 => N4.rec (motive := fun _ => An) (fun a1 b1 c1 d1 => N4.rec (motive := fun _ => An) (fun a2 b2 c2 d2 => K ⟨⟨a1, b1, ⟨a2, b2, (some v), d2⟩, d1⟩, b0, c0, d0⟩) c1) a0) t
noncomputable def A41 : SetT R3 := fun v t K => N4.rec (motive := fun _ => An) (fun a0 b0 c0 d0 => N4.rec (motive := fun _ => An) (fun a1 b1 c1 d1 => N4.rec (motive := fun _ => An) (fun a2 b2 c2 d2 => K ⟨a0, ⟨a1, b1, ⟨a2, b2, (some v), d2⟩, d1⟩, c0, d0⟩) c1) b0) t
noncomputable def A42 : SetT R3 := fun v t K => N4.rec (motive := fun _ => An) (fun a0 b0 c0 d0 => N4.rec (motive := fun _ => An) (fun a1 b1 c1 d1 => N4.rec (motive := fun _ => An) (fun a2 b2 c2 d2 => K ⟨a0, b0, ⟨a1, b1, ⟨a2, b2, (some v), d2⟩, d1⟩, d0⟩) c1) c0) t
noncomputable def A43 : SetT R3 := fun v t K => N4.rec (motive := fun _ => An) (fun a0 b0 c0 d0 => N4.rec (motive := fun _ => An) (fun a1 b1 c1 d1 => N4.rec (motive := fun _ => An) (fun a2 b2 c2 d2 => K ⟨a0, b0, c0, ⟨a1, b1, ⟨a2, b2, (some v), d2⟩, d1⟩⟩) c1) d0) t
noncomputable def A44 : SetT R3 := fun v t K => N4.rec (motive := fun _ => An) (fun a0 b0 c0 d0 => N4.rec (motive := fun _ => An) (fun a1 b1 c1 d1 => N4.rec (motive := fun _ => An) (fun a2 b2 c2 d2 => K ⟨⟨a1, b1, c1, ⟨a2, b2, (some v), d2⟩⟩, b0, c0, d0⟩) d1) a0) t
noncomputable def A45 : SetT R3 := fun v t K => N4.rec (motive := fun _ => An) (fun a0 b0 c0 d0 => N4.rec (motive := fun _ => An) (fun a1 b1 c1 d1 => N4.rec (motive := fun _ => An) (fun a2 b2 c2 d2 => K ⟨a0, ⟨a1, b1, c1, ⟨a2, b2, (some v), d2⟩⟩, c0, d0⟩) d1) b0) t
noncomputable def A46 : SetT R3 := fun v t K => N4.rec (motive := fun _ => An) (fun a0 b0 c0 d0 => N4.rec (motive := fun _ => An) (fun a1 b1 c1 d1 => N4.rec (motive := fun _ => An) (fun a2 b2 c2 d2 => K ⟨a0, b0, ⟨a1, b1, c1, ⟨a2, b2, (some v), d2⟩⟩, d0⟩) d1) c0) t
noncomputable def A47 : SetT R3 := fun v t K => N4.rec (motive := fun _ => An) (fun a0 b0 c0 d0 => N4.rec (motive := fun _ => An) (fun a1 b1 c1 d1 => N4.rec (motive := fun _ => An) (fun a2 b2 c2 d2 => K ⟨a0, b0, c0, ⟨a1, b1, c1, ⟨a2, b2, (some v), d2⟩⟩⟩) d1) d0) t
noncomputable def A48 : SetT R3 := fun v t K => N4.rec (motive := fun _ => An) (fun a0 b0 c0 d0 => N4.rec (motive := fun _ => An) (fun a1 b1 c1 d1 => N4.rec (motive := fun _ => An) (fun a2 b2 c2 d2 => K ⟨⟨⟨a2, b2, c2, (some v)⟩, b1, c1, d1⟩, b0, c0, d0⟩) a1) a0) t
noncomputable def A49 : SetT R3 := fun v t K => N4.rec (motive := fun _ => An) (fun a0 b0 c0 d0 => N4.rec (motive := fun _ => An) (fun a1 b1 c1 d1 => N4.rec (motive := fun _ => An) (fun a2 b2 c2 d2 => K ⟨a0, ⟨⟨a2, b2, c2, (some v)⟩, b1, c1, d1⟩, c0, d0⟩) a1) b0) t
noncomputable def A50 : SetT R3 := fun v t K => N4.rec (motive := fun _ => An) (fun a0 b0 c0 d0 => N4.rec (motive := fun _ => An) (fun a1 b1 c1 d1 => N4.rec (motive := fun _ => An) (fun a2 b2 c2 d2 => K ⟨a0, b0, ⟨⟨a2, b2, c2, (some v)⟩, b1, c1, d1⟩, d0⟩) a1) c0) t
noncomputable def A51 : SetT R3 := fun v t K => N4.rec (motive := fun _ => An) (fun a0 b0 c0 d0 => N4.rec (motive := fun _ => An) (fun a1 b1 c1 d1 => N4.rec (motive := fun _ => An) (fun a2 b2 c2 d2 => K ⟨a0, b0, c0, ⟨⟨a2, b2, c2, (some v)⟩, b1, c1, d1⟩⟩) a1) d0) t
noncomputable def A52 : SetT R3 := fun v t K => N4.rec (motive := fun _ => An) (fun a0 b0 c0 d0 => N4.rec (motive := fun _ => An) (fun a1 b1 c1 d1 => N4.rec (motive := fun _ => An) (fun a2 b2 c2 d2 => K ⟨⟨a1, ⟨a2, b2, c2, (some v)⟩, c1, d1⟩, b0, c0, d0⟩) b1) a0) t
noncomputable def A53 : SetT R3 := fun v t K => N4.rec (motive := fun _ => An) (fun a0 b0 c0 d0 => N4.rec (motive := fun _ => An) (fun a1 b1 c1 d1 => N4.rec (motive := fun _ => An) (fun a2 b2 c2 d2 => K ⟨a0, ⟨a1, ⟨a2, b2, c2, (some v)⟩, c1, d1⟩, c0, d0⟩) b1) b0) t
noncomputable def A54 : SetT R3 := fun v t K => N4.rec (motive := fun _ => An) (fun a0 b0 c0 d0 => N4.rec (motive := fun _ => An) (fun a1 b1 c1 d1 => N4.rec (motive := fun _ => An) (fun a2 b2 c2 d2 => K ⟨a0, b0, ⟨a1, ⟨a2, b2, c2, (some v)⟩, c1, d1⟩, d0⟩) b1) c0) t
noncomputable def A55 : SetT R3 := fun v t K => N4.rec (motive := fun _ => An) (fun a0 b0 c0 d0 => N4.rec (motive := fun _ => An) (fun a1 b1 c1 d1 => N4.rec (motive := fun _ => An) (fun a2 b2 c2 d2 => K ⟨a0, b0, c0, ⟨a1, ⟨a2, b2, c2, (some v)⟩, c1, d1⟩⟩) b1) d0) t
noncomputable def A56 : SetT R3 := fun v t K => N4.rec (motive := fun _ => An) (fun a0 b0 c0 d0 => N4.rec (motive := fun _ => An) (fun a1 b1 c1 d1 => N4.rec (motive := fun _ => An) (fun a2 b2 c2 d2 => K ⟨⟨a1, b1, ⟨a2, b2, c2, (some v)⟩, d1⟩, b0, c0, d0⟩) c1) a0) t
noncomputable def A57 : SetT R3 := fun v t K => N4.rec (motive := fun _ => An) (fun a0 b0 c0 d0 => N4.rec (motive := fun _ => An) (fun a1 b1 c1 d1 => N4.rec (motive := fun _ => An) (fun a2 b2 c2 d2 => K ⟨a0, ⟨a1, b1, ⟨a2, b2, c2, (some v)⟩, d1⟩, c0, d0⟩) c1) b0) t
noncomputable def A58 : SetT R3 := fun v t K => N4.rec (motive := fun _ => An) (fun a0 b0 c0 d0 => N4.rec (motive := fun _ => An) (fun a1 b1 c1 d1 => N4.rec (motive := fun _ => An) (fun a2 b2 c2 d2 => K ⟨a0, b0, ⟨a1, b1, ⟨a2, b2, c2, (some v)⟩, d1⟩, d0⟩) c1) c0) t
noncomputable def A59 : SetT R3 := fun v t K => N4.rec (motive := fun _ => An) (fun a0 b0 c0 d0 => N4.rec (motive := fun _ => An) (fun a1 b1 c1 d1 => N4.rec (motive := fun _ => An) (fun a2 b2 c2 d2 => K ⟨a0, b0, c0, ⟨a1, b1, ⟨a2, b2, c2, (some v)⟩, d1⟩⟩) c1) d0) t
noncomputable def A60 : SetT R3 := fun v t K => N4.rec (motive := fun _ => An) (fun a0 b0 c0 d0 => N4.rec (motive := fun _ => An) (fun a1 b1 c1 d1 => N4.rec (motive := fun _ => An) (fun a2 b2 c2 d2 => K ⟨⟨a1, b1, c1, ⟨a2, b2, c2, (some v)⟩⟩, b0, c0, d0⟩) d1) a0) t
noncomputable def A61 : SetT R3 := fun v t K => N4.rec (motive := fun _ => An) (fun a0 b0 c0 d0 => N4.rec (motive := fun _ => An) (fun a1 b1 c1 d1 => N4.rec (motive := fun _ => An) (fun a2 b2 c2 d2 => K ⟨a0, ⟨a1, b1, c1, ⟨a2, b2, c2, (some v)⟩⟩, c0, d0⟩) d1) b0) t
noncomputable def A62 : SetT R3 := fun v t K => N4.rec (motive := fun _ => An) (fun a0 b0 c0 d0 => N4.rec (motive := fun _ => An) (fun a1 b1 c1 d1 => N4.rec (motive := fun _ => An) (fun a2 b2 c2 d2 => K ⟨a0, b0, ⟨a1, b1, c1, ⟨a2, b2, c2, (some v)⟩⟩, d0⟩) d1) c0) t
noncomputable def A63 : SetT R3 := fun v t K => N4.rec (motive := fun _ => An) (fun a0 b0 c0 d0 => N4.rec (motive := fun _ => An) (fun a1 b1 c1 d1 => N4.rec (motive := fun _ => An) (fun a2 b2 c2 d2 => K ⟨a0, b0, c0, ⟨a1, b1, c1, ⟨a2, b2, c2, (some v)⟩⟩⟩) d1) d0) t
def b0 : GetT R4 := fun t => t.a.a.a.a
def b1 : GetT R4 := fun t => t.b.a.a.a
def b2 : GetT R4 := fun t => t.c.a.a.a
def b3 : GetT R4 := fun t => t.d.a.a.a
def b4 : GetT R4 := fun t => t.a.b.a.a
def b5 : GetT R4 := fun t => t.b.b.a.a
def b6 : GetT R4 := fun t => t.c.b.a.a
def b7 : GetT R4 := fun t => t.d.b.a.a
def b8 : GetT R4 := fun t => t.a.c.a.a
def b9 : GetT R4 := fun t => t.b.c.a.a
def b10 : GetT R4 := fun t => t.c.c.a.a
def b11 : GetT R4 := fun t => t.d.c.a.a
def b12 : GetT R4 := fun t => t.a.d.a.a
def b13 : GetT R4 := fun t => t.b.d.a.a
def b14 : GetT R4 := fun t => t.c.d.a.a
def b15 : GetT R4 := fun t => t.d.d.a.a
def b16 : GetT R4 := fun t => t.a.a.b.a
def b17 : GetT R4 := fun t => t.b.a.b.a
def b18 : GetT R4 := fun t => t.c.a.b.a
def b19 : GetT R4 := fun t => t.d.a.b.a
def b20 : GetT R4 := fun t => t.a.b.b.a
def b21 : GetT R4 := fun t => t.b.b.b.a
def b22 : GetT R4 := fun t => t.c.b.b.a
def b23 : GetT R4 := fun t => t.d.b.b.a
def b24 : GetT R4 := fun t => t.a.c.b.a
def b25 : GetT R4 := fun t => t.b.c.b.a
def b26 : GetT R4 := fun t => t.c.c.b.a
def b27 : GetT R4 := fun t => t.d.c.b.a
def b28 : GetT R4 := fun t => t.a.d.b.a
def b29 : GetT R4 := fun t => t.b.d.b.a
def b30 : GetT R4 := fun t => t.c.d.b.a
def b31 : GetT R4 := fun t => t.d.d.b.a
def b32 : GetT R4 := fun t => t.a.a.c.a
def b33 : GetT R4 := fun t => t.b.a.c.a
def b34 : GetT R4 := fun t => t.c.a.c.a
def b35 : GetT R4 := fun t => t.d.a.c.a
def b36 : GetT R4 := fun t => t.a.b.c.a
def b37 : GetT R4 := fun t => t.b.b.c.a
def b38 : GetT R4 := fun t => t.c.b.c.a
def b39 : GetT R4 := fun t => t.d.b.c.a
def b40 : GetT R4 := fun t => t.a.c.c.a
def b41 : GetT R4 := fun t => t.b.c.c.a
def b42 : GetT R4 := fun t => t.c.c.c.a
def b43 : GetT R4 := fun t => t.d.c.c.a
def b44 : GetT R4 := fun t => t.a.d.c.a
def b45 : GetT R4 := fun t => t.b.d.c.a
def b46 : GetT R4 := fun t => t.c.d.c.a
def b47 : GetT R4 := fun t => t.d.d.c.a
def b48 : GetT R4 := fun t => t.a.a.d.a
def b49 : GetT R4 := fun t => t.b.a.d.a
def b50 : GetT R4 := fun t => t.c.a.d.a
def b51 : GetT R4 := fun t => t.d.a.d.a
def b52 : GetT R4 := fun t => t.a.b.d.a
def b53 : GetT R4 := fun t => t.b.b.d.a
def b54 : GetT R4 := fun t => t.c.b.d.a
def b55 : GetT R4 := fun t => t.d.b.d.a
def b56 : GetT R4 := fun t => t.a.c.d.a
def b57 : GetT R4 := fun t => t.b.c.d.a
def b58 : GetT R4 := fun t => t.c.c.d.a
def b59 : GetT R4 := fun t => t.d.c.d.a
def b60 : GetT R4 := fun t => t.a.d.d.a
def b61 : GetT R4 := fun t => t.b.d.d.a
def b62 : GetT R4 := fun t => t.c.d.d.a
def b63 : GetT R4 := fun t => t.d.d.d.a
def b64 : GetT R4 := fun t => t.a.a.a.b
def b65 : GetT R4 := fun t => t.b.a.a.b
def b66 : GetT R4 := fun t => t.c.a.a.b
def b67 : GetT R4 := fun t => t.d.a.a.b
def b68 : GetT R4 := fun t => t.a.b.a.b
def b69 : GetT R4 := fun t => t.b.b.a.b
def b70 : GetT R4 := fun t => t.c.b.a.b
def b71 : GetT R4 := fun t => t.d.b.a.b
def b72 : GetT R4 := fun t => t.a.c.a.b
def b73 : GetT R4 := fun t => t.b.c.a.b
def b74 : GetT R4 := fun t => t.c.c.a.b
def b75 : GetT R4 := fun t => t.d.c.a.b
def b76 : GetT R4 := fun t => t.a.d.a.b
def b77 : GetT R4 := fun t => t.b.d.a.b
def b78 : GetT R4 := fun t => t.c.d.a.b
def b79 : GetT R4 := fun t => t.d.d.a.b
def b80 : GetT R4 := fun t => t.a.a.b.b
def b81 : GetT R4 := fun t => t.b.a.b.b
def b82 : GetT R4 := fun t => t.c.a.b.b
def b83 : GetT R4 := fun t => t.d.a.b.b
def b84 : GetT R4 := fun t => t.a.b.b.b
def b85 : GetT R4 := fun t => t.b.b.b.b
def b86 : GetT R4 := fun t => t.c.b.b.b
def b87 : GetT R4 := fun t => t.d.b.b.b
def b88 : GetT R4 := fun t => t.a.c.b.b
def b89 : GetT R4 := fun t => t.b.c.b.b
def b90 : GetT R4 := fun t => t.c.c.b.b
def b91 : GetT R4 := fun t => t.d.c.b.b
def b92 : GetT R4 := fun t => t.a.d.b.b
def b93 : GetT R4 := fun t => t.b.d.b.b
def b94 : GetT R4 := fun t => t.c.d.b.b
def b95 : GetT R4 := fun t => t.d.d.b.b
def b96 : GetT R4 := fun t => t.a.a.c.b
def b97 : GetT R4 := fun t => t.b.a.c.b
def b98 : GetT R4 := fun t => t.c.a.c.b
def b99 : GetT R4 := fun t => t.d.a.c.b
def b100 : GetT R4 := fun t => t.a.b.c.b
def b101 : GetT R4 := fun t => t.b.b.c.b
def b102 : GetT R4 := fun t => t.c.b.c.b
def b103 : GetT R4 := fun t => t.d.b.c.b
def b104 : GetT R4 := fun t => t.a.c.c.b
def b105 : GetT R4 := fun t => t.b.c.c.b
def b106 : GetT R4 := fun t => t.c.c.c.b
def b107 : GetT R4 := fun t => t.d.c.c.b
def b108 : GetT R4 := fun t => t.a.d.c.b
def b109 : GetT R4 := fun t => t.b.d.c.b
def b110 : GetT R4 := fun t => t.c.d.c.b
def b111 : GetT R4 := fun t => t.d.d.c.b
def b112 : GetT R4 := fun t => t.a.a.d.b
def b113 : GetT R4 := fun t => t.b.a.d.b
def b114 : GetT R4 := fun t => t.c.a.d.b
def b115 : GetT R4 := fun t => t.d.a.d.b
def b116 : GetT R4 := fun t => t.a.b.d.b
def b117 : GetT R4 := fun t => t.b.b.d.b
def b118 : GetT R4 := fun t => t.c.b.d.b
def b119 : GetT R4 := fun t => t.d.b.d.b
def b120 : GetT R4 := fun t => t.a.c.d.b
def b121 : GetT R4 := fun t => t.b.c.d.b
def b122 : GetT R4 := fun t => t.c.c.d.b
def b123 : GetT R4 := fun t => t.d.c.d.b
def b124 : GetT R4 := fun t => t.a.d.d.b
def b125 : GetT R4 := fun t => t.b.d.d.b
def b126 : GetT R4 := fun t => t.c.d.d.b
def b127 : GetT R4 := fun t => t.d.d.d.b
def b128 : GetT R4 := fun t => t.a.a.a.c
def b129 : GetT R4 := fun t => t.b.a.a.c
def b130 : GetT R4 := fun t => t.c.a.a.c
def b131 : GetT R4 := fun t => t.d.a.a.c
def b132 : GetT R4 := fun t => t.a.b.a.c
def b133 : GetT R4 := fun t => t.b.b.a.c
def b134 : GetT R4 := fun t => t.c.b.a.c
def b135 : GetT R4 := fun t => t.d.b.a.c
def b136 : GetT R4 := fun t => t.a.c.a.c
def b137 : GetT R4 := fun t => t.b.c.a.c
def b138 : GetT R4 := fun t => t.c.c.a.c
def b139 : GetT R4 := fun t => t.d.c.a.c
def b140 : GetT R4 := fun t => t.a.d.a.c
def b141 : GetT R4 := fun t => t.b.d.a.c
def b142 : GetT R4 := fun t => t.c.d.a.c
def b143 : GetT R4 := fun t => t.d.d.a.c
def b144 : GetT R4 := fun t => t.a.a.b.c
def b145 : GetT R4 := fun t => t.b.a.b.c
def b146 : GetT R4 := fun t => t.c.a.b.c
def b147 : GetT R4 := fun t => t.d.a.b.c
def b148 : GetT R4 := fun t => t.a.b.b.c
def b149 : GetT R4 := fun t => t.b.b.b.c
def b150 : GetT R4 := fun t => t.c.b.b.c
def b151 : GetT R4 := fun t => t.d.b.b.c
def b152 : GetT R4 := fun t => t.a.c.b.c
def b153 : GetT R4 := fun t => t.b.c.b.c
def b154 : GetT R4 := fun t => t.c.c.b.c
def b155 : GetT R4 := fun t => t.d.c.b.c
def b156 : GetT R4 := fun t => t.a.d.b.c
def b157 : GetT R4 := fun t => t.b.d.b.c
def b158 : GetT R4 := fun t => t.c.d.b.c
def b159 : GetT R4 := fun t => t.d.d.b.c
def b160 : GetT R4 := fun t => t.a.a.c.c
def b161 : GetT R4 := fun t => t.b.a.c.c
def b162 : GetT R4 := fun t => t.c.a.c.c
def b163 : GetT R4 := fun t => t.d.a.c.c
def b164 : GetT R4 := fun t => t.a.b.c.c
def b165 : GetT R4 := fun t => t.b.b.c.c
def b166 : GetT R4 := fun t => t.c.b.c.c
def b167 : GetT R4 := fun t => t.d.b.c.c
def b168 : GetT R4 := fun t => t.a.c.c.c
def b169 : GetT R4 := fun t => t.b.c.c.c
def b170 : GetT R4 := fun t => t.c.c.c.c
def b171 : GetT R4 := fun t => t.d.c.c.c
def b172 : GetT R4 := fun t => t.a.d.c.c
def b173 : GetT R4 := fun t => t.b.d.c.c
def b174 : GetT R4 := fun t => t.c.d.c.c
def b175 : GetT R4 := fun t => t.d.d.c.c
def b176 : GetT R4 := fun t => t.a.a.d.c
def b177 : GetT R4 := fun t => t.b.a.d.c
def b178 : GetT R4 := fun t => t.c.a.d.c
def b179 : GetT R4 := fun t => t.d.a.d.c
def b180 : GetT R4 := fun t => t.a.b.d.c
def b181 : GetT R4 := fun t => t.b.b.d.c
def b182 : GetT R4 := fun t => t.c.b.d.c
def b183 : GetT R4 := fun t => t.d.b.d.c
def b184 : GetT R4 := fun t => t.a.c.d.c
def b185 : GetT R4 := fun t => t.b.c.d.c
def b186 : GetT R4 := fun t => t.c.c.d.c
def b187 : GetT R4 := fun t => t.d.c.d.c
def b188 : GetT R4 := fun t => t.a.d.d.c
def b189 : GetT R4 := fun t => t.b.d.d.c
def b190 : GetT R4 := fun t => t.c.d.d.c
def b191 : GetT R4 := fun t => t.d.d.d.c
def b192 : GetT R4 := fun t => t.a.a.a.d
def b193 : GetT R4 := fun t => t.b.a.a.d
def b194 : GetT R4 := fun t => t.c.a.a.d
def b195 : GetT R4 := fun t => t.d.a.a.d
def b196 : GetT R4 := fun t => t.a.b.a.d
def b197 : GetT R4 := fun t => t.b.b.a.d
def b198 : GetT R4 := fun t => t.c.b.a.d
def b199 : GetT R4 := fun t => t.d.b.a.d
def b200 : GetT R4 := fun t => t.a.c.a.d
def b201 : GetT R4 := fun t => t.b.c.a.d
def b202 : GetT R4 := fun t => t.c.c.a.d
def b203 : GetT R4 := fun t => t.d.c.a.d
def b204 : GetT R4 := fun t => t.a.d.a.d
def b205 : GetT R4 := fun t => t.b.d.a.d
def b206 : GetT R4 := fun t => t.c.d.a.d
def b207 : GetT R4 := fun t => t.d.d.a.d
def b208 : GetT R4 := fun t => t.a.a.b.d
def b209 : GetT R4 := fun t => t.b.a.b.d
def b210 : GetT R4 := fun t => t.c.a.b.d
def b211 : GetT R4 := fun t => t.d.a.b.d
def b212 : GetT R4 := fun t => t.a.b.b.d
def b213 : GetT R4 := fun t => t.b.b.b.d
def b214 : GetT R4 := fun t => t.c.b.b.d
def b215 : GetT R4 := fun t => t.d.b.b.d
def b216 : GetT R4 := fun t => t.a.c.b.d
def b217 : GetT R4 := fun t => t.b.c.b.d
def b218 : GetT R4 := fun t => t.c.c.b.d
def b219 : GetT R4 := fun t => t.d.c.b.d
def b220 : GetT R4 := fun t => t.a.d.b.d
def b221 : GetT R4 := fun t => t.b.d.b.d
def b222 : GetT R4 := fun t => t.c.d.b.d
def b223 : GetT R4 := fun t => t.d.d.b.d
def b224 : GetT R4 := fun t => t.a.a.c.d
def b225 : GetT R4 := fun t => t.b.a.c.d
def b226 : GetT R4 := fun t => t.c.a.c.d
def b227 : GetT R4 := fun t => t.d.a.c.d
def b228 : GetT R4 := fun t => t.a.b.c.d
def b229 : GetT R4 := fun t => t.b.b.c.d
def b230 : GetT R4 := fun t => t.c.b.c.d
def b231 : GetT R4 := fun t => t.d.b.c.d
def b232 : GetT R4 := fun t => t.a.c.c.d
def b233 : GetT R4 := fun t => t.b.c.c.d
def b234 : GetT R4 := fun t => t.c.c.c.d
def b235 : GetT R4 := fun t => t.d.c.c.d
def b236 : GetT R4 := fun t => t.a.d.c.d
def b237 : GetT R4 := fun t => t.b.d.c.d
def b238 : GetT R4 := fun t => t.c.d.c.d
def b239 : GetT R4 := fun t => t.d.d.c.d
def b240 : GetT R4 := fun t => t.a.a.d.d
def b241 : GetT R4 := fun t => t.b.a.d.d
def b242 : GetT R4 := fun t => t.c.a.d.d
def b243 : GetT R4 := fun t => t.d.a.d.d
def b244 : GetT R4 := fun t => t.a.b.d.d
def b245 : GetT R4 := fun t => t.b.b.d.d
def b246 : GetT R4 := fun t => t.c.b.d.d
def b247 : GetT R4 := fun t => t.d.b.d.d
def b248 : GetT R4 := fun t => t.a.c.d.d
def b249 : GetT R4 := fun t => t.b.c.d.d
def b250 : GetT R4 := fun t => t.c.c.d.d
def b251 : GetT R4 := fun t => t.d.c.d.d
def b252 : GetT R4 := fun t => t.a.d.d.d
def b253 : GetT R4 := fun t => t.b.d.d.d
def b254 : GetT R4 := fun t => t.c.d.d.d
def b255 : GetT R4 := fun t => t.d.d.d.d
noncomputable def B0 : SetT R4 := fun v t K => N4.rec (motive := fun _ => An) (fun a0 b0 c0 d0 => N4.rec (motive := fun _ => An) (fun a1 b1 c1 d1 => N4.rec (motive := fun _ => An) (fun a2 b2 c2 d2 => N4.rec (motive := fun _ => An) (fun a3 b3 c3 d3 => K ⟨⟨⟨⟨(some v), b3, c3, d3⟩, b2, c2, d2⟩, b1, c1, d1⟩, b0, c0, d0⟩) a2) a1) a0) t
noncomputable def B1 : SetT R4 := fun v t K => N4.rec (motive := fun _ => An) (fun a0 b0 c0 d0 => N4.rec (motive := fun _ => An) (fun a1 b1 c1 d1 => N4.rec (motive := fun _ => An) (fun a2 b2 c2 d2 => N4.rec (motive := fun _ => An) (fun a3 b3 c3 d3 => K ⟨a0, ⟨⟨⟨(some v), b3, c3, d3⟩, b2, c2, d2⟩, b1, c1, d1⟩, c0, d0⟩) a2) a1) b0) t
noncomputable def B2 : SetT R4 := fun v t K => N4.rec (motive := fun _ => An) (fun a0 b0 c0 d0 => N4.rec (motive := fun _ => An) (fun a1 b1 c1 d1 => N4.rec (motive := fun _ => An) (fun a2 b2 c2 d2 => N4.rec (motive := fun _ => An) (fun a3 b3 c3 d3 => K ⟨a0, b0, ⟨⟨⟨(some v), b3, c3, d3⟩, b2, c2, d2⟩, b1, c1, d1⟩, d0⟩) a2) a1) c0) t
noncomputable def B3 : SetT R4 := fun v t K => N4.rec (motive := fun _ => An) (fun a0 b0 c0 d0 => N4.rec (motive := fun _ => An) (fun a1 b1 c1 d1 => N4.rec (motive := fun _ => An) (fun a2 b2 c2 d2 => N4.rec (motive := fun _ => An) (fun a3 b3 c3 d3 => K ⟨a0, b0, c0, ⟨⟨⟨(some v), b3, c3, d3⟩, b2, c2, d2⟩, b1, c1, d1⟩⟩) a2) a1) d0) t
noncomputable def B4 : SetT R4 := fun v t K => N4.rec (motive := fun _ => An) (fun a0 b0 c0 d0 => N4.rec (motive := fun _ => An) (fun a1 b1 c1 d1 => N4.rec (motive := fun _ => An) (fun a2 b2 c2 d2 => N4.rec (motive := fun _ => An) (fun a3 b3 c3 d3 => K ⟨⟨a1, ⟨⟨(some v), b3, c3, d3⟩, b2, c2, d2⟩, c1, d1⟩, b0, c0, d0⟩) a2) b1) a0) t
noncomputable def B5 : SetT R4 := fun v t K => N4.rec (motive := fun _ => An) (fun a0 b0 c0 d0 => N4.rec (motive := fun _ => An) (fun a1 b1 c1 d1 => N4.rec (motive := fun _ => An) (fun a2 b2 c2 d2 => N4.rec (motive := fun _ => An) (fun a3 b3 c3 d3 => K ⟨a0, ⟨a1, ⟨⟨(some v), b3, c3, d3⟩, b2, c2, d2⟩, c1, d1⟩, c0, d0⟩) a2) b1) b0) t
noncomputable def B6 : SetT R4 := fun v t K => N4.rec (motive := fun _ => An) (fun a0 b0 c0 d0 => N4.rec (motive := fun _ => An) (fun a1 b1 c1 d1 => N4.rec (motive := fun _ => An) (fun a2 b2 c2 d2 => N4.rec (motive := fun _ => An) (fun a3 b3 c3 d3 => K ⟨a0, b0, ⟨a1, ⟨⟨(some v), b3, c3, d3⟩, b2, c2, d2⟩, c1, d1⟩, d0⟩) a2) b1) c0) t
noncomputable def B7 : SetT R4 := fun v t K => N4.rec (motive := fun _ => An) (fun a0 b0 c0 d0 => N4.rec (motive := fun _ => An) (fun a1 b1 c1 d1 => N4.rec (motive := fun _ => An) (fun a2 b2 c2 d2 => N4.rec (motive := fun _ => An) (fun a3 b3 c3 d3 => K ⟨a0, b0, c0, ⟨a1, ⟨⟨(some v), b3, c3, d3⟩, b2, c2, d2⟩, c1, d1⟩⟩) a2) b1) d0) t
noncomputable def B8 : SetT R4 := fun v t K => N4.rec (motive := fun _ => An) (fun a0 b0 c0 d0 => N4.rec (motive := fun _ => An) (fun a1 b1 c1 d1 => N4.rec (motive := fun _ => An) (fun a2 b2 c2 d2 => N4.rec (motive := fun _ => An) (fun a3 b3 c3 d3 => K ⟨⟨a1, b1, ⟨⟨(some v), b3, c3, d3⟩, b2, c2, d2⟩, d1⟩, b0, c0, d0⟩) a2) c1) a0) t
noncomputable def B9 : SetT R4 := fun v t K => N4.rec (motive := fun _ => An) (fun a0 b0 c0 d0 => N4.rec (motive := fun _ => An) (fun a1 b1 c1 d1 => N4.rec (motive := fun _ => An) (fun a2 b2 c2 d2 => N4.rec (motive := fun _ => An) (fun a3 b3 c3 d3 => K ⟨a0, ⟨a1, b1, ⟨⟨(some v), b3, c3, d3⟩, b2, c2, d2⟩, d1⟩, c0, d0⟩) a2) c1) b0) t
noncomputable def B10 : SetT R4 := fun v t K => N4.rec (motive := fun _ => An) (fun a0 b0 c0 d0 => N4.rec (motive := fun _ => An) (fun a1 b1 c1 d1 => N4.rec (motive := fun _ => An) (fun a2 b2 c2 d2 => N4.rec (motive := fun _ => An) (fun a3 b3 c3 d3 => K ⟨a0, b0, ⟨a1, b1, ⟨⟨(some v), b3, c3, d3⟩, b2, c2, d2⟩, d1⟩, d0⟩) a2) c1) c0) t
noncomputable def B11 : SetT R4 := fun v t K => N4.rec (motive := fun _ => An) (fun a0 b0 c0 d0 => N4.rec (motive := fun _ => An) (fun a1 b1 c1 d1 => N4.rec (motive := fun _ => An) (fun a2 b2 c2 d2 => N4.rec (motive := fun _ => An) (fun a3 b3 c3 d3 => K ⟨a0, b0, c0, ⟨a1, b1, ⟨⟨(some v), b3, c3, d3⟩, b2, c2, d2⟩, d1⟩⟩) a2) c1) d0) t
noncomputable def B12 : SetT R4 := fun v t K => N4.rec (motive := fun _ => An) (fun a0 b0 c0 d0 => N4.rec (motive := fun _ => An) (fun a1 b1 c1 d1 => N4.rec (motive := fun _ => An) (fun a2 b2 c2 d2 => N4.rec (motive := fun _ => An) (fun a3 b3 c3 d3 => K ⟨⟨a1, b1, c1, ⟨⟨(some v), b3, c3, d3⟩, b2, c2, d2⟩⟩, b0, c0, d0⟩) a2) d1) a0) t
noncomputable def B13 : SetT R4 := fun v t K => N4.rec (motive := fun _ => An) (fun a0 b0 c0 d0 => N4.rec (motive := fun _ => An) (fun a1 b1 c1 d1 => N4.rec (motive := fun _ => An) (fun a2 b2 c2 d2 => N4.rec (motive := fun _ => An) (fun a3 b3 c3 d3 => K ⟨a0, ⟨a1, b1, c1, ⟨⟨(some v), b3, c3, d3⟩, b2, c2, d2⟩⟩, c0, d0⟩) a2) d1) b0) t
noncomputable def B14 : SetT R4 := fun v t K => N4.rec (motive := fun _ => An) (fun a0 b0 c0 d0 => N4.rec (motive := fun _ => An) (fun a1 b1 c1 d1 => N4.rec (motive := fun _ => An) (fun a2 b2 c2 d2 => N4.rec (motive := fun _ => An) (fun a3 b3 c3 d3 => K ⟨a0, b0, ⟨a1, b1, c1, ⟨⟨(some v), b3, c3, d3⟩, b2, c2, d2⟩⟩, d0⟩) a2) d1) c0) t
noncomputable def B15 : SetT R4 := fun v t K => N4.rec (motive := fun _ => An) (fun a0 b0 c0 d0 => N4.rec (motive := fun _ => An) (fun a1 b1 c1 d1 => N4.rec (motive := fun _ => An) (fun a2 b2 c2 d2 => N4.rec (motive := fun _ => An) (fun a3 b3 c3 d3 => K ⟨a0, b0, c0, ⟨a1, b1, c1, ⟨⟨(some v), b3, c3, d3⟩, b2, c2, d2⟩⟩⟩) a2) d1) d0) t
noncomputable def B16 : SetT R4 := fun v t K => N4.rec (motive := fun _ => An) (fun a0 b0 c0 d0 => N4.rec (motive := fun _ => An) (fun a1 b1 c1 d1 => N4.rec (motive := fun _ => An) (fun a2 b2 c2 d2 => N4.rec (motive := fun _ => An) (fun a3 b3 c3 d3 => K ⟨⟨⟨a2, ⟨(some v), b3, c3, d3⟩, c2, d2⟩, b1, c1, d1⟩, b0, c0, d0⟩) b2) a1) a0) t
noncomputable def B17 : SetT R4 := fun v t K => N4.rec (motive := fun _ => An) (fun a0 b0 c0 d0 => N4.rec (motive := fun _ => An) (fun a1 b1 c1 d1 => N4.rec (motive := fun _ => An) (fun a2 b2 c2 d2 => N4.rec (motive := fun _ => An) (fun a3 b3 c3 d3 => K ⟨a0, ⟨⟨a2, ⟨(some v), b3, c3, d3⟩, c2, d2⟩, b1, c1, d1⟩, c0, d0⟩) b2) a1) b0) t
noncomputable def B18 : SetT R4 := fun v t K => N4.rec (motive := fun _ => An) (fun a0 b0 c0 d0 => N4.rec (motive := fun _ => An) (fun a1 b1 c1 d1 => N4.rec (motive := fun _ => An) (fun a2 b2 c2 d2 => N4.rec (motive := fun _ => An) (fun a3 b3 c3 d3 => K ⟨a0, b0, ⟨⟨a2, ⟨(some v), b3, c3, d3⟩, c2, d2⟩, b1, c1, d1⟩, d0⟩) b2) a1) c0) t
noncomputable def B19 : SetT R4 := fun v t K => N4.rec (motive := fun _ => An) (fun a0 b0 c0 d0 => N4.rec (motive := fun _ => An) (fun a1 b1 c1 d1 => N4.rec (motive := fun _ => An) (fun a2 b2 c2 d2 => N4.rec (motive := fun _ => An) (fun a3 b3 c3 d3 => K ⟨a0, b0, c0, ⟨⟨a2, ⟨(some v), b3, c3, d3⟩, c2, d2⟩, b1, c1, d1⟩⟩) b2) a1) d0) t
noncomputable def B20 : SetT R4 := fun v t K => N4.rec (motive := fun _ => An) (fun a0 b0 c0 d0 => N4.rec (motive := fun _ => An) (fun a1 b1 c1 d1 => N4.rec (motive := fun _ => An) (fun a2 b2 c2 d2 => N4.rec (motive := fun _ => An) (fun a3 b3 c3 d3 => K ⟨⟨a1, ⟨a2, ⟨(some v), b3, c3, d3⟩, c2, d2⟩, c1, d1⟩, b0, c0, d0⟩) b2) b1) a0) t
noncomputable def B21 : SetT R4 := fun v t K => N4.rec (motive := fun _ => An) (fun a0 b0 c0 d0 => N4.rec (motive := fun _ => An) (fun a1 b1 c1 d1 => N4.rec (motive := fun _ => An) (fun a2 b2 c2 d2 => N4.rec (motive := fun _ => An) (fun a3 b3 c3 d3 => K ⟨a0, ⟨a1, ⟨a2, ⟨(some v), b3, c3, d3⟩, c2, d2⟩, c1, d1⟩, c0, d0⟩) b2) b1) b0) t
noncomputable def B22 : SetT R4 := fun v t K => N4.rec (motive := fun _ => An) (fun a0 b0 c0 d0 => N4.rec (motive := fun _ => An) (fun a1 b1 c1 d1 => N4.rec (motive := fun _ => An) (fun a2 b2 c2 d2 => N4.rec (motive := fun _ => An) (fun a3 b3 c3 d3 => K ⟨a0, b0, ⟨a1, ⟨a2, ⟨(some v), b3, c3, d3⟩, c2, d2⟩, c1, d1⟩, d0⟩) b2) b1) c0) t
noncomputable def B23 : SetT R4 := fun v t K => N4.rec (motive := fun _ => An) (fun a0 b0 c0 d0 => N4.rec (motive := fun _ => An) (fun a1 b1 c1 d1 => N4.rec (motive := fun _ => An) (fun a2 b2 c2 d2 => N4.rec (motive := fun _ => An) (fun a3 b3 c3 d3 => K ⟨a0, b0, c0, ⟨a1, ⟨a2, ⟨(some v), b3, c3, d3⟩, c2, d2⟩, c1, d1⟩⟩) b2) b1) d0) t
noncomputable def B24 : SetT R4 := fun v t K => N4.rec (motive := fun _ => An) (fun a0 b0 c0 d0 => N4.rec (motive := fun _ => An) (fun a1 b1 c1 d1 => N4.rec (motive := fun _ => An) (fun a2 b2 c2 d2 => N4.rec (motive := fun _ => An) (fun a3 b3 c3 d3 => K ⟨⟨a1, b1, ⟨a2, ⟨(some v), b3, c3, d3⟩, c2, d2⟩, d1⟩, b0, c0, d0⟩) b2) c1) a0) t
noncomputable def B25 : SetT R4 := fun v t K => N4.rec (motive := fun _ => An) (fun a0 b0 c0 d0 => N4.rec (motive := fun _ => An) (fun a1 b1 c1 d1 => N4.rec (motive := fun _ => An) (fun a2 b2 c2 d2 => N4.rec (motive := fun _ => An) (fun a3 b3 c3 d3 => K ⟨a0, ⟨a1, b1, ⟨a2, ⟨(some v), b3, c3, d3⟩, c2, d2⟩, d1⟩, c0, d0⟩) b2) c1) b0) t
noncomputable def B26 : SetT R4 := fun v t K => N4.rec (motive := fun _ => An) (fun a0 b0 c0 d0 => N4.rec (motive := fun _ => An) (fun a1 b1 c1 d1 => N4.rec (motive := fun _ => An) (fun a2 b2 c2 d2 => N4.rec (motive := fun _ => An) (fun a3 b3 c3 d3 => K ⟨a0, b0, ⟨a1, b1, ⟨a2, ⟨(some v), b3, c3, d3⟩, c2, d2⟩, d1⟩, d0⟩) b2) c1) c0) t
noncomputable def B27 : SetT R4 := fun v t K => N4.rec (motive := fun _ => An) (fun a0 b0 c0 d0 => N4.rec (motive := fun _ => An) (fun a1 b1 c1 d1 => N4.rec (motive := fun _ => An) (fun a2 b2 c2 d2 => N4.rec (motive := fun _ => An) (fun a3 b3 c3 d3 => K ⟨a0, b0, c0, ⟨a1, b1, ⟨a2, ⟨(some v), b3, c3, d3⟩, c2, d2⟩, d1⟩⟩) b2) c1) d0) t
noncomputable def B28 : SetT R4 := fun v t K => N4.rec (motive := fun _ => An) (fun a0 b0 c0 d0 => N4.rec (motive := fun _ => An) (fun a1 b1 c1 d1 => N4.rec (motive := fun _ => An) (fun a2 b2 c2 d2 => N4.rec (motive := fun _ => An) (fun a3 b3 c3 d3 => K ⟨⟨a1, b1, c1, ⟨a2, ⟨(some v), b3, c3, d3⟩, c2, d2⟩⟩, b0, c0, d0⟩) b2) d1) a0) t
noncomputable def B29 : SetT R4 := fun v t K => N4.rec (motive := fun _ => An) (fun a0 b0 c0 d0 => N4.rec (motive := fun _ => An) (fun a1 b1 c1 d1 => N4.rec (motive := fun _ => An) (fun a2 b2 c2 d2 => N4.rec (motive := fun _ => An) (fun a3 b3 c3 d3 => K ⟨a0, ⟨a1, b1, c1, ⟨a2, ⟨(some v), b3, c3, d3⟩, c2, d2⟩⟩, c0, d0⟩) b2) d1) b0) t
noncomputable def B30 : SetT R4 := fun v t K => N4.rec (motive := fun _ => An) (fun a0 b0 c0 d0 => N4.rec (motive := fun _ => An) (fun a1 b1 c1 d1 => N4.rec (motive := fun _ => An) (fun a2 b2 c2 d2 => N4.rec (motive := fun _ => An) (fun a3 b3 c3 d3 => K ⟨a0, b0, ⟨a1, b1, c1, ⟨a2, ⟨(some v), b3, c3, d3⟩, c2, d2⟩⟩, d0⟩) b2) d1) c0) t
noncomputable def B31 : SetT R4 := fun v t K => N4.rec (motive := fun _ => An) (fun a0 b0 c0 d0 => N4.rec (motive := fun _ => An) (fun a1 b1 c1 d1 => N4.rec (motive := fun _ => An) (fun a2 b2 c2 d2 => N4.rec (motive := fun _ => An) (fun a3 b3 c3 d3 => K ⟨a0, b0, c0, ⟨a1, b1, c1, ⟨a2, ⟨(some v), b3, c3, d3⟩, c2, d2⟩⟩⟩) b2) d1) d0) t
noncomputable def B32 : SetT R4 := fun v t K => N4.rec (motive := fun _ => An) (fun a0 b0 c0 d0 => N4.rec (motive := fun _ => An) (fun a1 b1 c1 d1 => N4.rec (motive := fun _ => An) (fun a2 b2 c2 d2 => N4.rec (motive := fun _ => An) (fun a3 b3 c3 d3 => K ⟨⟨⟨a2, b2, ⟨(some v), b3, c3, d3⟩, d2⟩, b1, c1, d1⟩, b0, c0, d0⟩) c2) a1) a0) t
noncomputable def B33 : SetT R4 := fun v t K => N4.rec (motive := fun _ => An) (fun a0 b0 c0 d0 => N4.rec (motive := fun _ => An) (fun a1 b1 c1 d1 => N4.rec (motive := fun _ => An) (fun a2 b2 c2 d2 => N4.rec (motive := fun _ => An) (fun a3 b3 c3 d3 => K ⟨a0, ⟨⟨a2, b2, ⟨(some v), b3, c3, d3⟩, d2⟩, b1, c1, d1⟩, c0, d0⟩) c2) a1) b0) t
noncomputable def B34 : SetT R4 := fun v t K => N4.rec (motive := fun _ => An) (fun a0 b0 c0 d0 => N4.rec (motive := fun _ => An) (fun a1 b1 c1 d1 => N4.rec (motive := fun _ => An) (fun a2 b2 c2 d2 => N4.rec (motive := fun _ => An) (fun a3 b3 c3 d3 => K ⟨a0, b0, ⟨⟨a2, b2, ⟨(some v), b3, c3, d3⟩, d2⟩, b1, c1, d1⟩, d0⟩) c2) a1) c0) t
noncomputable def B35 : SetT R4 := fun v t K => N4.rec (motive := fun _ => An) (fun a0 b0 c0 d0 => N4.rec (motive := fun _ => An) (fun a1 b1 c1 d1 => N4.rec (motive := fun _ => An) (fun a2 b2 c2 d2 => N4.rec (motive := fun _ => An) (fun a3 b3 c3 d3 => K ⟨a0, b0, c0, ⟨⟨a2, b2, ⟨(some v), b3, c3, d3⟩, d2⟩, b1, c1, d1⟩⟩) c2) a1) d0) t
noncomputable def B36 : SetT R4 := fun v t K => N4.rec (motive := fun _ => An) (fun a0 b0 c0 d0 => N4.rec (motive := fun _ => An) (fun a1 b1 c1 d1 => N4.rec (motive := fun _ => An) (fun a2 b2 c2 d2 => N4.rec (motive := fun _ => An) (fun a3 b3 c3 d3 => K ⟨⟨a1, ⟨a2, b2, ⟨(some v), b3, c3, d3⟩, d2⟩, c1, d1⟩, b0, c0, d0⟩) c2) b1) a0) t
noncomputable def B37 : SetT R4 := fun v t K => N4.rec (motive := fun _ => An) (fun a0 b0 c0 d0 => N4.rec (motive := fun _ => An) (fun a1 b1 c1 d1 => N4.rec (motive := fun _ => An) (fun a2 b2 c2 d2 => N4.rec (motive := fun _ => An) (fun a3 b3 c3 d3 => K ⟨a0, ⟨a1, ⟨a2, b2, ⟨(some v), b3, c3, d3⟩, d2⟩, c1, d1⟩, c0, d0⟩) c2) b1) b0) t
noncomputable def B38 : SetT R4 := fun v t K => N4.rec (motive := fun _ => An) (fun a0 b0 c0 d0 => N4.rec (motive := fun _ => An) (fun a1 b1 c1 d1 => N4.rec (motive := fun _ => An) (fun a2 b2 c2 d2 => N4.rec (motive := fun _ => An) (fun a3 b3 c3 d3 => K ⟨a0, b0, ⟨a1, ⟨a2, b2, ⟨(some v), b3, c3, d3⟩, d2⟩, c1, d1⟩, d0⟩) c2) b1) c0) t
noncomputable def B39 : SetT R4 := fun v t K => N4.rec (motive := fun _ => An) (fun a0 b0 c0 d0 => N4.rec (motive := fun _ => An) (fun a1 b1 c1 d1 => N4.rec (motive := fun _ => An) (fun a2 b2 c2 d2 => N4.rec (motive := fun _ => An) (fun a3 b3 c3 d3 => K ⟨a0, b0, c0, ⟨a1, ⟨a2, b2, ⟨(some v), b3, c3, d3⟩, d2⟩, c1, d1⟩⟩) c2) b1) d0) t
noncomputable def B40 : SetT R4 := fun v t K => N4.rec (motive := fun _ => An) (fun a0 b0 c0 d0 => N4.rec (motive := fun _ => An) (fun a1 b1 c1 d1 => N4.rec (motive := fun _ => An) (fun a2 b2 c2 d2 => N4.rec (motive := fun _ => An) (fun a3 b3 c3 d3 => K ⟨⟨a1, b1, ⟨a2, b2, ⟨(some v), b3, c3, d3⟩, d2⟩, d1⟩, b0, c0, d0⟩) c2) c1) a0) t
noncomputable def B41 : SetT R4 := fun v t K => N4.rec (motive := fun _ => An) (fun a0 b0 c0 d0 => N4.rec (motive := fun _ => An) (fun a1 b1 c1 d1 => N4.rec (motive := fun _ => An) (fun a2 b2 c2 d2 => N4.rec (motive := fun _ => An) (fun a3 b3 c3 d3 => K ⟨a0, ⟨a1, b1, ⟨a2, b2, ⟨(some v), b3, c3, d3⟩, d2⟩, d1⟩, c0, d0⟩) c2) c1) b0) t
noncomputable def B42 : SetT R4 := fun v t K => N4.rec (motive := fun _ => An) (fun a0 b0 c0 d0 => N4.rec (motive := fun _ => An) (fun a1 b1 c1 d1 => N4.rec (motive := fun _ => An) (fun a2 b2 c2 d2 => N4.rec (motive := fun _ => An) (fun a3 b3 c3 d3 => K ⟨a0, b0, ⟨a1, b1, ⟨a2, b2, ⟨(some v), b3, c3, d3⟩, d2⟩, d1⟩, d0⟩) c2) c1) c0) t
noncomputable def B43 : SetT R4 := fun v t K => N4.rec (motive := fun _ => An) (fun a0 b0 c0 d0 => N4.rec (motive := fun _ => An) (fun a1 b1 c1 d1 => N4.rec (motive := fun _ => An) (fun a2 b2 c2 d2 => N4.rec (motive := fun _ => An) (fun a3 b3 c3 d3 => K ⟨a0, b0, c0, ⟨a1, b1, ⟨a2, b2, ⟨(some v), b3, c3, d3⟩, d2⟩, d1⟩⟩) c2) c1) d0) t
noncomputable def B44 : SetT R4 := fun v t K => N4.rec (motive := fun _ => An) (fun a0 b0 c0 d0 => N4.rec (motive := fun _ => An) (fun a1 b1 c1 d1 => N4.rec (motive := fun _ => An) (fun a2 b2 c2 d2 => N4.rec (motive := fun _ => An) (fun a3 b3 c3 d3 => K ⟨⟨a1, b1, c1, ⟨a2, b2, ⟨(some v), b3, c3, d3⟩, d2⟩⟩, b0, c0, d0⟩) c2) d1) a0) t
noncomputable def B45 : SetT R4 := fun v t K => N4.rec (motive := fun _ => An) (fun a0 b0 c0 d0 => N4.rec (motive := fun _ => An) (fun a1 b1 c1 d1 => N4.rec (motive := fun _ => An) (fun a2 b2 c2 d2 => N4.rec (motive := fun _ => An) (fun a3 b3 c3 d3 => K ⟨a0, ⟨a1, b1, c1, ⟨a2, b2, ⟨(some v), b3, c3, d3⟩, d2⟩⟩, c0, d0⟩) c2) d1) b0) t
noncomputable def B46 : SetT R4 := fun v t K => N4.rec (motive := fun _ => An) (fun a0 b0 c0 d0 => N4.rec (motive := fun _ => An) (fun a1 b1 c1 d1 => N4.rec (motive := fun _ => An) (fun a2 b2 c2 d2 => N4.rec (motive := fun _ => An) (fun a3 b3 c3 d3 => K ⟨a0, b0, ⟨a1, b1, c1, ⟨a2, b2, ⟨(some v), b3, c3, d3⟩, d2⟩⟩, d0⟩) c2) d1) c0) t
noncomputable def B47 : SetT R4 := fun v t K => N4.rec (motive := fun _ => An) (fun a0 b0 c0 d0 => N4.rec (motive := fun _ => An) (fun a1 b1 c1 d1 => N4.rec (motive := fun _ => An) (fun a2 b2 c2 d2 => N4.rec (motive := fun _ => An) (fun a3 b3 c3 d3 => K ⟨a0, b0, c0, ⟨a1, b1, c1, ⟨a2, b2, ⟨(some v), b3, c3, d3⟩, d2⟩⟩⟩) c2) d1) d0) t
noncomputable def B48 : SetT R4 := fun v t K => N4.rec (motive := fun _ => An) (fun a0 b0 c0 d0 => N4.rec (motive := fun _ => An) (fun a1 b1 c1 d1 => N4.rec (motive := fun _ => An) (fun a2 b2 c2 d2 => N4.rec (motive := fun _ => An) (fun a3 b3 c3 d3 => K ⟨⟨⟨a2, b2, c2, ⟨(some v), b3, c3, d3⟩⟩, b1, c1, d1⟩, b0, c0, d0⟩) d2) a1) a0) t
noncomputable def B49 : SetT R4 := fun v t K => N4.rec (motive := fun _ => An) (fun a0 b0 c0 d0 => N4.rec (motive := fun _ => An) (fun a1 b1 c1 d1 => N4.rec (motive := fun _ => An) (fun a2 b2 c2 d2 => N4.rec (motive := fun _ => An) (fun a3 b3 c3 d3 => K ⟨a0, ⟨⟨a2, b2, c2, ⟨(some v), b3, c3, d3⟩⟩, b1, c1, d1⟩, c0, d0⟩) d2) a1) b0) t
noncomputable def B50 : SetT R4 := fun v t K => N4.rec (motive := fun _ => An) (fun a0 b0 c0 d0 => N4.rec (motive := fun _ => An) (fun a1 b1 c1 d1 => N4.rec (motive := fun _ => An) (fun a2 b2 c2 d2 => N4.rec (motive := fun _ => An) (fun a3 b3 c3 d3 => K ⟨a0, b0, ⟨⟨a2, b2, c2, ⟨(some v), b3, c3, d3⟩⟩, b1, c1, d1⟩, d0⟩) d2) a1) c0) t
noncomputable def B51 : SetT R4 := fun v t K => N4.rec (motive := fun _ => An) (fun a0 b0 c0 d0 => N4.rec (motive := fun _ => An) (fun a1 b1 c1 d1 => N4.rec (motive := fun _ => An) (fun a2 b2 c2 d2 => N4.rec (motive := fun _ => An) (fun a3 b3 c3 d3 => K ⟨a0, b0, c0, ⟨⟨a2, b2, c2, ⟨(some v), b3, c3, d3⟩⟩, b1, c1, d1⟩⟩) d2) a1) d0) t
noncomputable def B52 : SetT R4 := fun v t K => N4.rec (motive := fun _ => An) (fun a0 b0 c0 d0 => N4.rec (motive := fun _ => An) (fun a1 b1 c1 d1 => N4.rec (motive := fun _ => An) (fun a2 b2 c2 d2 => N4.rec (motive := fun _ => An) (fun a3 b3 c3 d3 => K ⟨⟨a1, ⟨a2, b2, c2, ⟨(some v), b3, c3, d3⟩⟩, c1, d1⟩, b0, c0, d0⟩) d2) b1) a0) t
noncomputable def B53 : SetT R4 := fun v t K => N4.rec (motive := fun _ => An) (fun a0 b0 c0 d0 => N4.rec (motive := fun _ => An) (fun a1 b1 c1 d1 => N4.rec (motive := fun _ => An) (fun a2 b2 c2 d2 => N4.rec (motive := fun _ => An) (fun a3 b3 c3 d3 => K ⟨a0, ⟨a1, ⟨a2, b2, c2, ⟨(some v), b3, c3, d3⟩⟩, c1, d1⟩, c0, d0⟩) d2) b1) b0) t
noncomputable def B54 : SetT R4 := fun v t K => N4.rec (motive := fun _ => An) (fun a0 b0 c0 d0 => N4.rec (motive := fun _ => An) (fun a1 b1 c1 d1 => N4.rec (motive := fun _ => An) (fun a2 b2 c2 d2 => N4.rec (motive := fun _ => An) (fun a3 b3 c3 d3 => K ⟨a0, b0, ⟨a1, ⟨a2, b2, c2, ⟨(some v), b3, c3, d3⟩⟩, c1, d1⟩, d0⟩) d2) b1) c0) t
noncomputable def B55 : SetT R4 := fun v t K => N4.rec (motive := fun _ => An) (fun a0 b0 c0 d0 => N4.rec (motive := fun _ => An) (fun a1 b1 c1 d1 => N4.rec (motive := fun _ => An) (fun a2 b2 c2 d2 => N4.rec (motive := fun _ => An) (fun a3 b3 c3 d3 => K ⟨a0, b0, c0, ⟨a1, ⟨a2, b2, c2, ⟨(some v), b3, c3, d3⟩⟩, c1, d1⟩⟩) d2) b1) d0) t
noncomputable def B56 : SetT R4 := fun v t K => N4.rec (motive := fun _ => An) (fun a0 b0 c0 d0 => N4.rec (motive := fun _ => An) (fun a1 b1 c1 d1 => N4.rec (motive := fun _ => An) (fun a2 b2 c2 d2 => N4.rec (motive := fun _ => An) (fun a3 b3 c3 d3 => K ⟨⟨a1, b1, ⟨a2, b2, c2, ⟨(some v), b3, c3, d3⟩⟩, d1⟩, b0, c0, d0⟩) d2) c1) a0) t
noncomputable def B57 : SetT R4 := fun v t K => N4.rec (motive := fun _ => An) (fun a0 b0 c0 d0 => N4.rec (motive := fun _ => An) (fun a1 b1 c1 d1 => N4.rec (motive := fun _ => An) (fun a2 b2 c2 d2 => N4.rec (motive := fun _ => An) (fun a3 b3 c3 d3 => K ⟨a0, ⟨a1, b1, ⟨a2, b2, c2, ⟨(some v), b3, c3, d3⟩⟩, d1⟩, c0, d0⟩) d2) c1) b0) t
noncomputable def B58 : SetT R4 := fun v t K => N4.rec (motive := fun _ => An) (fun a0 b0 c0 d0 => N4.rec (motive := fun _ => An) (fun a1 b1 c1 d1 => N4.rec (motive := fun _ => An) (fun a2 b2 c2 d2 => N4.rec (motive := fun _ => An) (fun a3 b3 c3 d3 => K ⟨a0, b0, ⟨a1, b1, ⟨a2, b2, c2, ⟨(some v), b3, c3, d3⟩⟩, d1⟩, d0⟩) d2) c1) c0) t
noncomputable def B59 : SetT R4 := fun v t K => N4.rec (motive := fun _ => An) (fun a0 b0 c0 d0 => N4.rec (motive := fun _ => An) (fun a1 b1 c1 d1 => N4.rec (motive := fun _ => An) (fun a2 b2 c2 d2 => N4.rec (motive := fun _ => An) (fun a3 b3 c3 d3 => K ⟨a0, b0, c0, ⟨a1, b1, ⟨a2, b2, c2, ⟨(some v), b3, c3, d3⟩⟩, d1⟩⟩) d2) c1) d0) t
noncomputable def B60 : SetT R4 := fun v t K => N4.rec (motive := fun _ => An) (fun a0 b0 c0 d0 => N4.rec (motive := fun _ => An) (fun a1 b1 c1 d1 => N4.rec (motive := fun _ => An) (fun a2 b2 c2 d2 => N4.rec (motive := fun _ => An) (fun a3 b3 c3 d3 => K ⟨⟨a1, b1, c1, ⟨a2, b2, c2, ⟨(some v), b3, c3, d3⟩⟩⟩, b0, c0, d0⟩) d2) d1) a0) t
noncomputable def B61 : SetT R4 := fun v t K => N4.rec (motive := fun _ => An) (fun a0 b0 c0 d0 => N4.rec (motive := fun _ => An) (fun a1 b1 c1 d1 => N4.rec (motive := fun _ => An) (fun a2 b2 c2 d2 => N4.rec (motive := fun _ => An) (fun a3 b3 c3 d3 => K ⟨a0, ⟨a1, b1, c1, ⟨a2, b2, c2, ⟨(some v), b3, c3, d3⟩⟩⟩, c0, d0⟩) d2) d1) b0) t
noncomputable def B62 : SetT R4 := fun v t K => N4.rec (motive := fun _ => An) (fun a0 b0 c0 d0 => N4.rec (motive := fun _ => An) (fun a1 b1 c1 d1 => N4.rec (motive := fun _ => An) (fun a2 b2 c2 d2 => N4.rec (motive := fun _ => An) (fun a3 b3 c3 d3 => K ⟨a0, b0, ⟨a1, b1, c1, ⟨a2, b2, c2, ⟨(some v), b3, c3, d3⟩⟩⟩, d0⟩) d2) d1) c0) t
noncomputable def B63 : SetT R4 := fun v t K => N4.rec (motive := fun _ => An) (fun a0 b0 c0 d0 => N4.rec (motive := fun _ => An) (fun a1 b1 c1 d1 => N4.rec (motive := fun _ => An) (fun a2 b2 c2 d2 => N4.rec (motive := fun _ => An) (fun a3 b3 c3 d3 => K ⟨a0, b0, c0, ⟨a1, b1, c1, ⟨a2, b2, c2, ⟨(some v), b3, c3, d3⟩⟩⟩⟩) d2) d1) d0) t
noncomputable def B64 : SetT R4 := fun v t K => N4.rec (motive := fun _ => An) (fun a0 b0 c0 d0 => N4.rec (motive := fun _ => An) (fun a1 b1 c1 d1 => N4.rec (motive := fun _ => An) (fun a2 b2 c2 d2 => N4.rec (motive := fun _ => An) (fun a3 b3 c3 d3 => K ⟨⟨⟨⟨a3, (some v), c3, d3⟩, b2, c2, d2⟩, b1, c1, d1⟩, b0, c0, d0⟩) a2) a1) a0) t
noncomputable def B65 : SetT R4 := fun v t K => N4.rec (motive := fun _ => An) (fun a0 b0 c0 d0 => N4.rec (motive := fun _ => An) (fun a1 b1 c1 d1 => N4.rec (motive := fun _ => An) (fun a2 b2 c2 d2 => N4.rec (motive := fun _ => An) (fun a3 b3 c3 d3 => K ⟨a0, ⟨⟨⟨a3, (some v), c3, d3⟩, b2, c2, d2⟩, b1, c1, d1⟩, c0, d0⟩) a2) a1) b0) t
noncomputable def B66 : SetT R4 := fun v t K => N4.rec (motive := fun _ => An) (fun a0 b0 c0 d0 => N4.rec (motive := fun _ => An) (fun a1 b1 c1 d1 => N4.rec (motive := fun _ => An) (fun a2 b2 c2 d2 => N4.rec (motive := fun _ => An) (fun a3 b3 c3 d3 => K ⟨a0, b0, ⟨⟨⟨a3, (some v), c3, d3⟩, b2, c2, d2⟩, b1, c1, d1⟩, d0⟩) a2) a1) c0) t
noncomputable def B67 : SetT R4 := fun v t K => N4.rec (motive := fun _ => An) (fun a0 b0 c0 d0 => N4.rec (motive := fun _ => An) (fun a1 b1 c1 d1 => N4.rec (motive := fun _ => An) (fun a2 b2 c2 d2 => N4.rec (motive := fun _ => An) (fun a3 b3 c3 d3 => K ⟨a0, b0, c0, ⟨⟨⟨a3, (some v), c3, d3⟩, b2, c2, d2⟩, b1, c1, d1⟩⟩) a2) a1) d0) t
noncomputable def B68 : SetT R4 := fun v t K => N4.rec (motive := fun _ => An) (fun a0 b0 c0 d0 => N4.rec (motive := fun _ => An) (fun a1 b1 c1 d1 => N4.rec (motive := fun _ => An) (fun a2 b2 c2 d2 => N4.rec (motive := fun _ => An) (fun a3 b3 c3 d3 => K ⟨⟨a1, ⟨⟨a3, (some v), c3, d3⟩, b2, c2, d2⟩, c1, d1⟩, b0, c0, d0⟩) a2) b1) a0) t
noncomputable def B69 : SetT R4 := fun v t K => N4.rec (motive := fun _ => An) (fun a0 b0 c0 d0 => N4.rec (motive := fun _ => An) (fun a1 b1 c1 d1 => N4.rec (motive := fun _ => An) (fun a2 b2 c2 d2 => N4.rec (motive := fun _ => An) (fun a3 b3 c3 d3 => K ⟨a0, ⟨a1, ⟨⟨a3, (some v), c3, d3⟩, b2, c2, d2⟩, c1, d1⟩, c0, d0⟩) a2) b1) b0) t
noncomputable def B70 : SetT R4 := fun v t K => N4.rec (motive := fun _ => An) (fun a0 b0 c0 d0 => N4.rec (motive := fun _ => An) (fun a1 b1 c1 d1 => N4.rec (motive := fun _ => An) (fun a2 b2 c2 d2 => N4.rec (motive := fun _ => An) (fun a3 b3 c3 d3 => K ⟨a0, b0, ⟨a1, ⟨⟨a3, (some v), c3, d3⟩, b2, c2, d2⟩, c1, d1⟩, d0⟩) a2) b1) c0) t
noncomputable def B71 : SetT R4 := fun v t K => N4.rec (motive := fun _ => An) (fun a0 b0 c0 d0 => N4.rec (motive := fun _ => An) (fun a1 b1 c1 d1 => N4.rec (motive := fun _ => An) (fun a2 b2 c2 d2 => N4.rec (motive := fun _ => An) (fun a3 b3 c3 d3 => K ⟨a0, b0, c0, ⟨a1, ⟨⟨a3, (some v), c3, d3⟩, b2, c2, d2⟩, c1, d1⟩⟩) a2) b1) d0) t
noncomputable def B72 : SetT R4 := fun v t K => N4.rec (motive := fun _ => An) (fun a0 b0 c0 d0 => N4.rec (motive := fun _ => An) (fun a1 b1 c1 d1 => N4.rec (motive := fun _ => An) (fun a2 b2 c2 d2 => N4.rec (motive := fun _ => An) (fun a3 b3 c3 d3 => K ⟨⟨a1, b1, ⟨⟨a3, (some v), c3, d3⟩, b2, c2, d2⟩, d1⟩, b0, c0, d0⟩) a2) c1) a0) t
noncomputable def B73 : SetT R4 := fun v t K => N4.rec (motive := fun _ => An) (fun a0 b0 c0 d0 => N4.rec (motive := fun _ => An) (fun a1 b1 c1 d1 => N4.rec (motive := fun _ => An) (fun a2 b2 c2 d2 => N4.rec (motive := fun _ => An) (fun a3 b3 c3 d3 => K ⟨a0, ⟨a1, b1, ⟨⟨a3, (some v), c3, d3⟩, b2, c2, d2⟩, d1⟩, c0, d0⟩) a2) c1) b0) t
noncomputable def B74 : SetT R4 := fun v t K => N4.rec (motive := fun _ => An) (fun a0 b0 c0 d0 => N4.rec (motive := fun _ => An) (fun a1 b1 c1 d1 => N4.rec (motive := fun _ => An) (fun a2 b2 c2 d2 => N4.rec (motive := fun _ => An) (fun a3 b3 c3 d3 => K ⟨a0, b0, ⟨a1, b1, ⟨⟨a3, (some v), c3, d3⟩, b2, c2, d2⟩, d1⟩, d0⟩) a2) c1) c0) t
noncomputable def B75 : SetT R4 := fun v t K => N4.rec (motive := fun _ => An) (fun a0 b0 c0 d0 => N4.rec (motive := fun _ => An) (fun a1 b1 c1 d1 => N4.rec (motive := fun _ => An) (fun a2 b2 c2 d2 => N4.rec (motive := fun _ => An) (fun a3 b3 c3 d3 => K ⟨a0, b0, c0, ⟨a1, b1, ⟨⟨a3, (some v), c3, d3⟩, b2, c2, d2⟩, d1⟩⟩) a2) c1) d0) t
noncomputable def B76 : SetT R4 := fun v t K => N4.rec (motive := fun _ => An) (fun a0 b0 c0 d0 => N4.rec (motive := fun _ => An) (fun a1 b1 c1 d1 => N4.rec (motive := fun _ => An) (fun a2 b2 c2 d2 => N4.rec (motive := fun _ => An) (fun a3 b3 c3 d3 => K ⟨⟨a1, b1, c1, ⟨⟨a3, (some v), c3, d3⟩, b2, c2, d2⟩⟩, b0, c0, d0⟩) a2) d1) a0) t
noncomputable def B77 : SetT R4 := fun v t K => N4.rec (motive := fun _ => An) (fun a0 b0 c0 d0 => N4.rec (motive := fun _ => An) (fun a1 b1 c1 d1 => N4.rec (motive := fun _ => An) (fun a2 b2 c2 d2 => N4.rec (motive := fun _ => An) (fun a3 b3 c3 d3 => K ⟨a0, ⟨a1, b1, c1, ⟨⟨a3, (some v), c3, d3⟩, b2, c2, d2⟩⟩, c0, d0⟩) a2) d1) b0) t
noncomputable def B78 : SetT R4 := fun v t K => N4.rec (motive := fun _ => An) (fun a0 b0 c0 d0 => N4.rec (motive := fun _ => An) (fun a1 b1 c1 d1 => N4.rec (motive := fun _ => An) (fun a2 b2 c2 d2 => N4.rec (motive := fun _ => An) (fun a3 b3 c3 d3 => K ⟨a0, b0, ⟨a1, b1, c1, ⟨⟨a3, (some v), c3, d3⟩, b2, c2, d2⟩⟩, d0⟩) a2) d1) c0) t
noncomputable def B79 : SetT R4 := fun v t K => N4.rec (motive := fun _ => An) (fun a0 b0 c0 d0 => N4.rec (motive := fun _ => An) (fun a1 b1 c1 d1 => N4.rec (motive := fun _ => An) (fun a2 b2 c2 d2 => N4.rec (motive := fun _ => An) (fun a3 b3 c3 d3 => K ⟨a0, b0, c0, ⟨a1, b1, c1, ⟨⟨a3, (some v), c3, d3⟩, b2, c2, d2⟩⟩⟩) a2) d1) d0) t
noncomputable def B80 : SetT R4 := fun v t K => N4.rec (motive := fun _ => An) (fun a0 b0 c0 d0 => N4.rec (motive := fun _ => An) (fun a1 b1 c1 d1 => N4.rec (motive := fun _ => An) (fun a2 b2 c2 d2 => N4.rec (motive := fun _ => An) (fun a3 b3 c3 d3 => K ⟨⟨⟨a2, ⟨a3, (some v), c3, d3⟩, c2, d2⟩, b1, c1, d1⟩, b0, c0, d0⟩) b2) a1) a0) t
noncomputable def B81 : SetT R4 := fun v t K => N4.rec (motive := fun _ => An) (fun a0 b0 c0 d0 => N4.rec (motive := fun _ => An) (fun a1 b1 c1 d1 => N4.rec (motive := fun _ => An) (fun a2 b2 c2 d2 => N4.rec (motive := fun _ => An) (fun a3 b3 c3 d3 => K ⟨a0, ⟨⟨a2, ⟨a3, (some v), c3, d3⟩, c2, d2⟩, b1, c1, d1⟩, c0, d0⟩) b2) a1) b0) t
noncomputable def B82 : SetT R4 := fun v t K => N4.rec (motive := fun _ => An) (fun a0 b0 c0 d0 => N4.rec (motive := fun _ => An) (fun a1 b1 c1 d1 => N4.rec (motive := fun _ => An) (fun a2 b2 c2 d2 => N4.rec (motive := fun _ => An) (fun a3 b3 c3 d3 => K ⟨a0, b0, ⟨⟨a2, ⟨a3, (some v), c3, d3⟩, c2, d2⟩, b1, c1, d1⟩, d0⟩) b2) a1) c0) t
noncomputable def B83 : SetT R4 := fun v t K => N4.rec (motive := fun _ => An) (fun a0 b0 c0 d0 => N4.rec (motive := fun _ => An) (fun a1 b1 c1 d1 => N4.rec (motive := fun _ => An) (fun a2 b2 c2 d2 => N4.rec (motive := fun _ => An) (fun a3 b3 c3 d3 => K ⟨a0, b0, c0, ⟨⟨a2, ⟨a3, (some v), c3, d3⟩, c2, d2⟩, b1, c1, d1⟩⟩) b2) a1) d0) t
noncomputable def B84 : SetT R4 := fun v t K => N4.rec (motive := fun _ => An) (fun a0 b0 c0 d0 => N4.rec (motive := fun _ => An) (fun a1 b1 c1 d1 => N4.rec (motive := fun _ => An) (fun a2 b2 c2 d2 => N4.rec (motive := fun _ => An) (fun a3 b3 c3 d3 => K ⟨⟨a1, ⟨a2, ⟨a3, (some v), c3, d3⟩, c2, d2⟩, c1, d1⟩, b0, c0, d0⟩) b2) b1) a0) t
noncomputable def B85 : SetT R4 := fun v t K => N4.rec (motive := fun _ => An) (fun a0 b0 c0 d0 => N4.rec (motive := fun _ => An) (fun a1 b1 c1 d1 => N4.rec (motive := fun _ => An) (fun a2 b2 c2 d2 => N4.rec (motive := fun _ => An) (fun a3 b3 c3 d3 => K ⟨a0, ⟨a1, ⟨a2, ⟨a3, (some v), c3, d3⟩, c2, d2⟩, c1, d1⟩, c0, d0⟩) b2) b1) b0) t
noncomputable def B86 : SetT R4 := fun v t K => N4.rec (motive := fun _ => An) (fun a0 b0 c0 d0 => N4.rec (motive := fun _ => An) (fun a1 b1 c1 d1 => N4.rec (motive := fun _ => An) (fun a2 b2 c2 d2 => N4.rec (motive := fun _ => An) (fun a3 b3 c3 d3 => K ⟨a0, b0, ⟨a1, ⟨a2, ⟨a3, (some v), c3, d3⟩, c2, d2⟩, c1, d1⟩, d0⟩) b2) b1) c0) t
noncomputable def B87 : SetT R4 := fun v t K => N4.rec (motive := fun _ => An) (fun a0 b0 c0 d0 => N4.rec (motive := fun _ => An) (fun a1 b1 c1 d1 => N4.rec (motive := fun _ => An) (fun a2 b2 c2 d2 => N4.rec (motive := fun _ => An) (fun a3 b3 c3 d3 => K ⟨a0, b0, c0, ⟨a1, ⟨a2, ⟨a3, (some v), c3, d3⟩, c2, d2⟩, c1, d1⟩⟩) b2) b1) d0) t
noncomputable def B88 : SetT R4 := fun v t K => N4.rec (motive := fun _ => An) (fun a0 b0 c0 d0 => N4.rec (motive := fun _ => An) (fun a1 b1 c1 d1 => N4.rec (motive := fun _ => An) (fun a2 b2 c2 d2 => N4.rec (motive := fun _ => An) (fun a3 b3 c3 d3 => K ⟨⟨a1, b1, ⟨a2, ⟨a3, (some v), c3, d3⟩, c2, d2⟩, d1⟩, b0, c0, d0⟩) b2) c1) a0) t
noncomputable def B89 : SetT R4 := fun v t K => N4.rec (motive := fun _ => An) (fun a0 b0 c0 d0 => N4.rec (motive := fun _ => An) (fun a1 b1 c1 d1 => N4.rec (motive := fun _ => An) (fun a2 b2 c2 d2 => N4.rec (motive := fun _ => An) (fun a3 b3 c3 d3 => K ⟨a0, ⟨a1, b1, ⟨a2, ⟨a3, (some v), c3, d3⟩, c2, d2⟩, d1⟩, c0, d0⟩) b2) c1) b0) t
noncomputable def B90 : SetT R4 := fun v t K => N4.rec (motive := fun _ => An) (fun a0 b0 c0 d0 => N4.rec (motive := fun _ => An) (fun a1 b1 c1 d1 => N4.rec (motive := fun _ => An) (fun a2 b2 c2 d2 => N4.rec (motive := fun _ => An) (fun a3 b3 c3 d3 => K ⟨a0, b0, ⟨a1, b1, ⟨a2, ⟨a3, (some v), c3, d3⟩, c2, d2⟩, d1⟩, d0⟩) b2) c1) c0) t
noncomputable def B91 : SetT R4 := fun v t K => N4.rec (motive := fun _ => An) (fun a0 b0 c0 d0 => N4.rec (motive := fun _ => An) (fun a1 b1 c1 d1 => N4.rec (motive := fun _ => An) (fun a2 b2 c2 d2 => N4.rec (motive := fun _ => An) (fun a3 b3 c3 d3 => K ⟨a0, b0, c0, ⟨a1, b1, ⟨a2, ⟨a3, (some v), c3, d3⟩, c2, d2⟩, d1⟩⟩) b2) c1) d0) t
noncomputable def B92 : SetT R4 := fun v t K => N4.rec (motive := fun _ => An) (fun a0 b0 c0 d0 => N4.rec (motive := fun _ => An) (fun a1 b1 c1 d1 => N4.rec (motive := fun _ => An) (fun a2 b2 c2 d2 => N4.rec (motive := fun _ => An) (fun a3 b3 c3 d3 => K ⟨⟨a1, b1, c1, ⟨a2, ⟨a3, (some v), c3, d3⟩, c2, d2⟩⟩, b0, c0, d0⟩) b2) d1) a0) t
noncomputable def B93 : SetT R4 := fun v t K => N4.rec (motive := fun _ => An) (fun a0 b0 c0 d0 => N4.rec (motive := fun _ => An) (fun a1 b1 c1 d1 => N4.rec (motive := fun _ => An) (fun a2 b2 c2 d2 => N4.rec (motive := fun _ => An) (fun a3 b3 c3 d3 => K ⟨a0, ⟨a1, b1, c1, ⟨a2, ⟨a3, (some v), c3, d3⟩, c2, d2⟩⟩, c0, d0⟩) b2) d1) b0) t
noncomputable def B94 : SetT R4 := fun v t K => N4.rec (motive := fun _ => An) (fun a0 b0 c0 d0 => N4.rec (motive := fun _ => An) (fun a1 b1 c1 d1 => N4.rec (motive := fun _ => An) (fun a2 b2 c2 d2 => N4.rec (motive := fun _ => An) (fun a3 b3 c3 d3 => K ⟨a0, b0, ⟨a1, b1, c1, ⟨a2, ⟨a3, (some v), c3, d3⟩, c2, d2⟩⟩, d0⟩) b2) d1) c0) t
noncomputable def B95 : SetT R4 := fun v t K => N4.rec (motive := fun _ => An) (fun a0 b0 c0 d0 => N4.rec (motive := fun _ => An) (fun a1 b1 c1 d1 => N4.rec (motive := fun _ => An) (fun a2 b2 c2 d2 => N4.rec (motive := fun _ => An) (fun a3 b3 c3 d3 => K ⟨a0, b0, c0, ⟨a1, b1, c1, ⟨a2, ⟨a3, (some v), c3, d3⟩, c2, d2⟩⟩⟩) b2) d1) d0) t
noncomputable def B96 : SetT R4 := fun v t K => N4.rec (motive := fun _ => An) (fun a0 b0 c0 d0 => N4.rec (motive := fun _ => An) (fun a1 b1 c1 d1 => N4.rec (motive := fun _ => An) (fun a2 b2 c2 d2 => N4.rec (motive := fun _ => An) (fun a3 b3 c3 d3 => K ⟨⟨⟨a2, b2, ⟨a3, (some v), c3, d3⟩, d2⟩, b1, c1, d1⟩, b0, c0, d0⟩) c2) a1) a0) t
noncomputable def B97 : SetT R4 := fun v t K => N4.rec (motive := fun _ => An) (fun a0 b0 c0 d0 => N4.rec (motive := fun _ => An) (fun a1 b1 c1 d1 => N4.rec (motive := fun _ => An) (fun a2 b2 c2 d2 => N4.rec (motive := fun _ => An) (fun a3 b3 c3 d3 => K ⟨a0, ⟨⟨a2, b2, ⟨a3, (some v), c3, d3⟩, d2⟩, b1, c1, d1⟩, c0, d0⟩) c2) a1) b0) t
noncomputable def B98 : SetT R4 := fun v t K => N4.rec (motive := fun _ => An) (fun a0 b0 c0 d0 => N4.rec (motive := fun _ => An) (fun a1 b1 c1 d1 => N4.rec (motive := fun _ => An) (fun a2 b2 c2 d2 => N4.rec (motive := fun _ => An) (fun a3 b3 c3 d3 => K ⟨a0, b0, ⟨⟨a2, b2, ⟨a3, (some v), c3, d3⟩, d2⟩, b1, c1, d1⟩, d0⟩) c2) a1) c0) t
noncomputable def B99 : SetT R4 := fun v t K => N4.rec (motive := fun _ => An) (fun a0 b0 c0 d0 => N4.rec (motive := fun _ => An) (fun a1 b1 c1 d1 => N4.rec (motive := fun _ => An) (fun a2 b2 c2 d2 => N4.rec (motive := fun _ => An) (fun a3 b3 c3 d3 => K ⟨a0, b0, c0, ⟨⟨a2, b2, ⟨a3, (some v), c3, d3⟩, d2⟩, b1, c1, d1⟩⟩) c2) a1) d0) t
noncomputable def B100 : SetT R4 := fun v t K => N4.rec (motive := fun _ => An) (fun a0 b0 c0 d0 => N4.rec (motive := fun _ => An) (fun a1 b1 c1 d1 => N4.rec (motive := fun _ => An) (fun a2 b2 c2 d2 => N4.rec (motive := fun _ => An) (fun a3 b3 c3 d3 => K ⟨⟨a1, ⟨a2, b2, ⟨a3, (some v), c3, d3⟩, d2⟩, c1, d1⟩, b0, c0, d0⟩) c2) b1) a0) t
noncomputable def B101 : SetT R4 := fun v t K => N4.rec (motive := fun _ => An) (fun a0 b0 c0 d0 => N4.rec (motive := fun _ => An) (fun a1 b1 c1 d1 => N4.rec (motive := fun _ => An) (fun a2 b2 c2 d2 => N4.rec (motive := fun _ => An) (fun a3 b3 c3 d3 => K ⟨a0, ⟨a1, ⟨a2, b2, ⟨a3, (some v), c3, d3⟩, d2⟩, c1, d1⟩, c0, d0⟩) c2) b1) b0) t
noncomputable def B102 : SetT R4 := fun v t K => N4.rec (motive := fun _ => An) (fun a0 b0 c0 d0 => N4.rec (motive := fun _ => An) (fun a1 b1 c1 d1 => N4.rec (motive := fun _ => An) (fun a2 b2 c2 d2 => N4.rec (motive := fun _ => An) (fun a3 b3 c3 d3 => K ⟨a0, b0, ⟨a1, ⟨a2, b2, ⟨a3, (some v), c3, d3⟩, d2⟩, c1, d1⟩, d0⟩) c2) b1) c0) t
noncomputable def B103 : SetT R4 := fun v t K => N4.rec (motive := fun _ => An) (fun a0 b0 c0 d0 => N4.rec (motive := fun _ => An) (fun a1 b1 c1 d1 => N4.rec (motive := fun _ => An) (fun a2 b2 c2 d2 => N4.rec (motive := fun _ => An) (fun a3 b3 c3 d3 => K ⟨a0, b0, c0, ⟨a1, ⟨a2, b2, ⟨a3, (some v), c3, d3⟩, d2⟩, c1, d1⟩⟩) c2) b1) d0) t
noncomputable def B104 : SetT R4 := fun v t K => N4.rec (motive := fun _ => An) (fun a0 b0 c0 d0 => N4.rec (motive := fun _ => An) (fun a1 b1 c1 d1 => N4.rec (motive := fun _ => An) (fun a2 b2 c2 d2 => N4.rec (motive := fun _ => An) (fun a3 b3 c3 d3 => K ⟨⟨a1, b1, ⟨a2, b2, ⟨a3, (some v), c3, d3⟩, d2⟩, d1⟩, b0, c0, d0⟩) c2) c1) a0) t
noncomputable def B105 : SetT R4 := fun v t K => N4.rec (motive := fun _ => An) (fun a0 b0 c0 d0 => N4.rec (motive := fun _ => An) (fun a1 b1 c1 d1 => N4.rec (motive := fun _ => An) (fun a2 b2 c2 d2 => N4.rec (motive := fun _ => An) (fun a3 b3 c3 d3 => K ⟨a0, ⟨a1, b1, ⟨a2, b2, ⟨a3, (some v), c3, d3⟩, d2⟩, d1⟩, c0, d0⟩) c2) c1) b0) t
noncomputable def B106 : SetT R4 := fun v t K => N4.rec (motive := fun _ => An) (fun a0 b0 c0 d0 => N4.rec (motive := fun _ => An) (fun a1 b1 c1 d1 => N4.rec (motive := fun _ => An) (fun a2 b2 c2 d2 => N4.rec (motive := fun _ => An) (fun a3 b3 c3 d3 => K ⟨a0, b0, ⟨a1, b1, ⟨a2, b2, ⟨a3, (some v), c3, d3⟩, d2⟩, d1⟩, d0⟩) c2) c1) c0) t
noncomputable def B107 : SetT R4 := fun v t K => N4.rec (motive := fun _ => An) (fun a0 b0 c0 d0 => N4.rec (motive := fun _ => An) (fun a1 b1 c1 d1 => N4.rec (motive := fun _ => An) (fun a2 b2 c2 d2 => N4.rec (motive := fun _ => An) (fun a3 b3 c3 d3 => K ⟨a0, b0, c0, ⟨a1, b1, ⟨a2, b2, ⟨a3, (some v), c3, d3⟩, d2⟩, d1⟩⟩) c2) c1) d0) t
noncomputable def B108 : SetT R4 := fun v t K => N4.rec (motive := fun _ => An) (fun a0 b0 c0 d0 => N4.rec (motive := fun _ => An) (fun a1 b1 c1 d1 => N4.rec (motive := fun _ => An) (fun a2 b2 c2 d2 => N4.rec (motive := fun _ => An) (fun a3 b3 c3 d3 => K ⟨⟨a1, b1, c1, ⟨a2, b2, ⟨a3, (some v), c3, d3⟩, d2⟩⟩, b0, c0, d0⟩) c2) d1) a0) t
noncomputable def B109 : SetT R4 := fun v t K => N4.rec (motive := fun _ => An) (fun a0 b0 c0 d0 => N4.rec (motive := fun _ => An) (fun a1 b1 c1 d1 => N4.rec (motive := fun _ => An) (fun a2 b2 c2 d2 => N4.rec (motive := fun _ => An) (fun a3 b3 c3 d3 => K ⟨a0, ⟨a1, b1, c1, ⟨a2, b2, ⟨a3, (some v), c3, d3⟩, d2⟩⟩, c0, d0⟩) c2) d1) b0) t
noncomputable def B110 : SetT R4 := fun v t K => N4.rec (motive := fun _ => An) (fun a0 b0 c0 d0 => N4.rec (motive := fun _ => An) (fun a1 b1 c1 d1 => N4.rec (motive := fun _ => An) (fun a2 b2 c2 d2 => N4.rec (motive := fun _ => An) (fun a3 b3 c3 d3 => K ⟨a0, b0, ⟨a1, b1, c1, ⟨a2, b2, ⟨a3, (some v), c3, d3⟩, d2⟩⟩, d0⟩) c2) d1) c0) t
noncomputable def B111 : SetT R4 := fun v t K => N4.rec (motive := fun _ => An) (fun a0 b0 c0 d0 => N4.rec (motive := fun _ => An) (fun a1 b1 c1 d1 => N4.rec (motive := fun _ => An) (fun a2 b2 c2 d2 => N4.rec (motive := fun _ => An) (fun a3 b3 c3 d3 => K ⟨a0, b0, c0, ⟨a1, b1, c1, ⟨a2, b2, ⟨a3, (some v), c3, d3⟩, d2⟩⟩⟩) c2) d1) d0) t
noncomputable def B112 : SetT R4 := fun v t K => N4.rec (motive := fun _ => An) (fun a0 b0 c0 d0 => N4.rec (motive := fun _ => An) (fun a1 b1 c1 d1 => N4.rec (motive := fun _ => An) (fun a2 b2 c2 d2 => N4.rec (motive := fun _ => An) (fun a3 b3 c3 d3 => K ⟨⟨⟨a2, b2, c2, ⟨a3, (some v), c3, d3⟩⟩, b1, c1, d1⟩, b0, c0, d0⟩) d2) a1) a0) t
noncomputable def B113 : SetT R4 := fun v t K => N4.rec (motive := fun _ => An) (fun a0 b0 c0 d0 => N4.rec (motive := fun _ => An) (fun a1 b1 c1 d1 => N4.rec (motive := fun _ => An) (fun a2 b2 c2 d2 => N4.rec (motive := fun _ => An) (fun a3 b3 c3 d3 => K ⟨a0, ⟨⟨a2, b2, c2, ⟨a3, (some v), c3, d3⟩⟩, b1, c1, d1⟩, c0, d0⟩) d2) a1) b0) t
noncomputable def B114 : SetT R4 := fun v t K => N4.rec (motive := fun _ => An) (fun a0 b0 c0 d0 => N4.rec (motive := fun _ => An) (fun a1 b1 c1 d1 => N4.rec (motive := fun _ => An) (fun a2 b2 c2 d2 => N4.rec (motive := fun _ => An) (fun a3 b3 c3 d3 => K ⟨a0, b0, ⟨⟨a2, b2, c2, ⟨a3, (some v), c3, d3⟩⟩, b1, c1, d1⟩, d0⟩) d2) a1) c0) t
noncomputable def B115 : SetT R4 := fun v t K => N4.rec (motive := fun _ => An) (fun a0 b0 c0 d0 => N4.rec (motive := fun _ => An) (fun a1 b1 c1 d1 => N4.rec (motive := fun _ => An) (fun a2 b2 c2 d2 => N4.rec (motive := fun _ => An) (fun a3 b3 c3 d3 => K ⟨a0, b0, c0, ⟨⟨a2, b2, c2, ⟨a3, (some v), c3, d3⟩⟩, b1, c1, d1⟩⟩) d2) a1) d0) t
noncomputable def B116 : SetT R4 := fun v t K => N4.rec (motive := fun _ => An) (fun a0 b0 c0 d0 => N4.rec (motive := fun _ => An) (fun a1 b1 c1 d1 => N4.rec (motive := fun _ => An) (fun a2 b2 c2 d2 => N4.rec (motive := fun _ => An) (fun a3 b3 c3 d3 => K ⟨⟨a1, ⟨a2, b2, c2, ⟨a3, (some v), c3, d3⟩⟩, c1, d1⟩, b0, c0, d0⟩) d2) b1) a0) t
noncomputable def B117 : SetT R4 := fun v t K => N4.rec (motive := fun _ => An) (fun a0 b0 c0 d0 => N4.rec (motive := fun _ => An) (fun a1 b1 c1 d1 => N4.rec (motive := fun _ => An) (fun a2 b2 c2 d2 => N4.rec (motive := fun _ => An) (fun a3 b3 c3 d3 => K ⟨a0, ⟨a1, ⟨a2, b2, c2, ⟨a3, (some v), c3, d3⟩⟩, c1, d1⟩, c0, d0⟩) d2) b1) b0) t
noncomputable def B118 : SetT R4 := fun v t K => N4.rec (motive := fun _ => An) (fun a0 b0 c0 d0 => N4.rec (motive := fun _ => An) (fun a1 b1 c1 d1 => N4.rec (motive := fun _ => An) (fun a2 b2 c2 d2 => N4.rec (motive := fun _ => An) (fun a3 b3 c3 d3 => K ⟨a0, b0, ⟨a1, ⟨a2, b2, c2, ⟨a3, (some v), c3, d3⟩⟩, c1, d1⟩, d0⟩) d2) b1) c0) t
noncomputable def B119 : SetT R4 := fun v t K => N4.rec (motive := fun _ => An) (fun a0 b0 c0 d0 => N4.rec (motive := fun _ => An) (fun a1 b1 c1 d1 => N4.rec (motive := fun _ => An) (fun a2 b2 c2 d2 => N4.rec (motive := fun _ => An) (fun a3 b3 c3 d3 => K ⟨a0, b0, c0, ⟨a1, ⟨a2, b2, c2, ⟨a3, (some v), c3, d3⟩⟩, c1, d1⟩⟩) d2) b1) d0) t
noncomputable def B120 : SetT R4 := fun v t K => N4.rec (motive := fun _ => An) (fun a0 b0 c0 d0 => N4.rec (motive := fun _ => An) (fun a1 b1 c1 d1 => N4.rec (motive := fun _ => An) (fun a2 b2 c2 d2 => N4.rec (motive := fun _ => An) (fun a3 b3 c3 d3 => K ⟨⟨a1, b1, ⟨a2, b2, c2, ⟨a3, (some v), c3, d3⟩⟩, d1⟩, b0, c0, d0⟩) d2) c1) a0) t
noncomputable def B121 : SetT R4 := fun v t K => N4.rec (motive := fun _ => An) (fun a0 b0 c0 d0 => N4.rec (motive := fun _ => An) (fun a1 b1 c1 d1 => N4.rec (motive := fun _ => An) (fun a2 b2 c2 d2 => N4.rec (motive := fun _ => An) (fun a3 b3 c3 d3 => K ⟨a0, ⟨a1, b1, ⟨a2, b2, c2, ⟨a3, (some v), c3, d3⟩⟩, d1⟩, c0, d0⟩) d2) c1) b0) t
noncomputable def B122 : SetT R4 := fun v t K => N4.rec (motive := fun _ => An) (fun a0 b0 c0 d0 => N4.rec (motive := fun _ => An) (fun a1 b1 c1 d1 => N4.rec (motive := fun _ => An) (fun a2 b2 c2 d2 => N4.rec (motive := fun _ => An) (fun a3 b3 c3 d3 => K ⟨a0, b0, ⟨a1, b1, ⟨a2, b2, c2, ⟨a3, (some v), c3, d3⟩⟩, d1⟩, d0⟩) d2) c1) c0) t
noncomputable def B123 : SetT R4 := fun v t K => N4.rec (motive := fun _ => An) (fun a0 b0 c0 d0 => N4.rec (motive := fun _ => An) (fun a1 b1 c1 d1 => N4.rec (motive := fun _ => An) (fun a2 b2 c2 d2 => N4.rec (motive := fun _ => An) (fun a3 b3 c3 d3 => K ⟨a0, b0, c0, ⟨a1, b1, ⟨a2, b2, c2, ⟨a3, (some v), c3, d3⟩⟩, d1⟩⟩) d2) c1) d0) t
noncomputable def B124 : SetT R4 := fun v t K => N4.rec (motive := fun _ => An) (fun a0 b0 c0 d0 => N4.rec (motive := fun _ => An) (fun a1 b1 c1 d1 => N4.rec (motive := fun _ => An) (fun a2 b2 c2 d2 => N4.rec (motive := fun _ => An) (fun a3 b3 c3 d3 => K ⟨⟨a1, b1, c1, ⟨a2, b2, c2, ⟨a3, (some v), c3, d3⟩⟩⟩, b0, c0, d0⟩) d2) d1) a0) t
noncomputable def B125 : SetT R4 := fun v t K => N4.rec (motive := fun _ => An) (fun a0 b0 c0 d0 => N4.rec (motive := fun _ => An) (fun a1 b1 c1 d1 => N4.rec (motive := fun _ => An) (fun a2 b2 c2 d2 => N4.rec (motive := fun _ => An) (fun a3 b3 c3 d3 => K ⟨a0, ⟨a1, b1, c1, ⟨a2, b2, c2, ⟨a3, (some v), c3, d3⟩⟩⟩, c0, d0⟩) d2) d1) b0) t
noncomputable def B126 : SetT R4 := fun v t K => N4.rec (motive := fun _ => An) (fun a0 b0 c0 d0 => N4.rec (motive := fun _ => An) (fun a1 b1 c1 d1 => N4.rec (motive := fun _ => An) (fun a2 b2 c2 d2 => N4.rec (motive := fun _ => An) (fun a3 b3 c3 d3 => K ⟨a0, b0, ⟨a1, b1, c1, ⟨a2, b2, c2, ⟨a3, (some v), c3, d3⟩⟩⟩, d0⟩) d2) d1) c0) t
noncomputable def B127 : SetT R4 := fun v t K => N4.rec (motive := fun _ => An) (fun a0 b0 c0 d0 => N4.rec (motive := fun _ => An) (fun a1 b1 c1 d1 => N4.rec (motive := fun _ => An) (fun a2 b2 c2 d2 => N4.rec (motive := fun _ => An) (fun a3 b3 c3 d3 => K ⟨a0, b0, c0, ⟨a1, b1, c1, ⟨a2, b2, c2, ⟨a3, (some v), c3, d3⟩⟩⟩⟩) d2) d1) d0) t
noncomputable def B128 : SetT R4 := fun v t K => N4.rec (motive := fun _ => An) (fun a0 b0 c0 d0 => N4.rec (motive := fun _ => An) (fun a1 b1 c1 d1 => N4.rec (motive := fun _ => An) (fun a2 b2 c2 d2 => N4.rec (motive := fun _ => An) (fun a3 b3 c3 d3 => K ⟨⟨⟨⟨a3, b3, (some v), d3⟩, b2, c2, d2⟩, b1, c1, d1⟩, b0, c0, d0⟩) a2) a1) a0) t
noncomputable def B129 : SetT R4 := fun v t K => N4.rec (motive := fun _ => An) (fun a0 b0 c0 d0 => N4.rec (motive := fun _ => An) (fun a1 b1 c1 d1 => N4.rec (motive := fun _ => An) (fun a2 b2 c2 d2 => N4.rec (motive := fun _ => An) (fun a3 b3 c3 d3 => K ⟨a0, ⟨⟨⟨a3, b3, (some v), d3⟩, b2, c2, d2⟩, b1, c1, d1⟩, c0, d0⟩) a2) a1) b0) t
noncomputable def B130 : SetT R4 := fun v t K => N4.rec (motive := fun _ => An) (fun a0 b0 c0 d0 => N4.rec (motive := fun _ => An) (fun a1 b1 c1 d1 => N4.rec (motive := fun _ => An) (fun a2 b2 c2 d2 => N4.rec (motive := fun _ => An) (fun a3 b3 c3 d3 => K ⟨a0, b0, ⟨⟨⟨a3, b3, (some v), d3⟩, b2, c2, d2⟩, b1, c1, d1⟩, d0⟩) a2) a1) c0) t
noncomputable def B131 : SetT R4 := fun v t K => N4.rec (motive := fun _ => An) (fun a0 b0 c0 d0 => N4.rec (motive := fun _ => An) (fun a1 b1 c1 d1 => N4.rec (motive := fun _ => An) (fun a2 b2 c2 d2 => N4.rec (motive := fun _ => An) (fun a3 b3 c3 d3 => K ⟨a0, b0, c0, ⟨⟨⟨a3, b3, (some v), d3⟩, b2, c2, d2⟩, b1, c1, d1⟩⟩) a2) a1) d0) t
noncomputable def B132 : SetT R4 := fun v t K => N4.rec (motive := fun _ => An) (fun a0 b0 c0 d0 => N4.rec (motive := fun _ => An) (fun a1 b1 c1 d1 => N4.rec (motive := fun _ => An) (fun a2 b2 c2 d2 => N4.rec (motive := fun _ => An) (fun a3 b3 c3 d3 => K ⟨⟨a1, ⟨⟨a3, b3, (some v), d3⟩, b2, c2, d2⟩, c1, d1⟩, b0, c0, d0⟩) a2) b1) a0) t
noncomputable def B133 : SetT R4 := fun v t K => N4.rec (motive := fun _ => An) (fun a0 b0 c0 d0 => N4.rec (motive := fun _ => An) (fun a1 b1 c1 d1 => N4.rec (motive := fun _ => An) (fun a2 b2 c2 d2 => N4.rec (motive := fun _ => An) (fun a3 b3 c3 d3 => K ⟨a0, ⟨a1, ⟨⟨a3, b3, (some v), d3⟩, b2, c2, d2⟩, c1, d1⟩, c0, d0⟩) a2) b1) b0) t
noncomputable def B134 : SetT R4 := fun v t K => N4.rec (motive := fun _ => An) (fun a0 b0 c0 d0 => N4.rec (motive := fun _ => An) (fun a1 b1 c1 d1 => N4.rec (motive := fun _ => An) (fun a2 b2 c2 d2 => N4.rec (motive := fun _ => An) (fun a3 b3 c3 d3 => K ⟨a0, b0, ⟨a1, ⟨⟨a3, b3, (some v), d3⟩, b2, c2, d2⟩, c1, d1⟩, d0⟩) a2) b1) c0) t
noncomputable def B135 : SetT R4 := fun v t K => N4.rec (motive := fun _ => An) (fun a0 b0 c0 d0 => N4.rec (motive := fun _ => An) (fun a1 b1 c1 d1 => N4.rec (motive := fun _ => An) (fun a2 b2 c2 d2 => N4.rec (motive := fun _ => An) (fun a3 b3 c3 d3 => K ⟨a0, b0, c0, ⟨a1, ⟨⟨a3, b3, (some v), d3⟩, b2, c2, d2⟩, c1, d1⟩⟩) a2) b1) d0) t
noncomputable def B136 : SetT R4 := fun v t K => N4.rec (motive := fun _ => An) (fun a0 b0 c0 d0 => N4.rec (motive := fun _ => An) (fun a1 b1 c1 d1 => N4.rec (motive := fun _ => An) (fun a2 b2 c2 d2 => N4.rec (motive := fun _ => An) (fun a3 b3 c3 d3 => K ⟨⟨a1, b1, ⟨⟨a3, b3, (some v), d3⟩, b2, c2, d2⟩, d1⟩, b0, c0, d0⟩) a2) c1) a0) t
noncomputable def B137 : SetT R4 := fun v t K => N4.rec (motive := fun _ => An) (fun a0 b0 c0 d0 => N4.rec (motive := fun _ => An) (fun a1 b1 c1 d1 => N4.rec (motive := fun _ => An) (fun a2 b2 c2 d2 => N4.rec (motive := fun _ => An) (fun a3 b3 c3 d3 => K ⟨a0, ⟨a1, b1, ⟨⟨a3, b3, (some v), d3⟩, b2, c2, d2⟩, d1⟩, c0, d0⟩) a2) c1) b0) t
noncomputable def B138 : SetT R4 := fun v t K => N4.rec (motive := fun _ => An) (fun a0 b0 c0 d0 => N4.rec (motive := fun _ => An) (fun a1 b1 c1 d1 => N4.rec (motive := fun _ => An) (fun a2 b2 c2 d2 => N4.rec (motive := fun _ => An) (fun a3 b3 c3 d3 => K ⟨a0, b0, ⟨a1, b1, ⟨⟨a3, b3, (some v), d3⟩, b2, c2, d2⟩, d1⟩, d0⟩) a2) c1) c0) t
noncomputable def B139 : SetT R4 := fun v t K => N4.rec (motive := fun _ => An) (fun a0 b0 c0 d0 => N4.rec (motive := fun _ => An) (fun a1 b1 c1 d1 => N4.rec (motive := fun _ => An) (fun a2 b2 c2 d2 => N4.rec (motive := fun _ => An) (fun a3 b3 c3 d3 => K ⟨a0, b0, c0, ⟨a1, b1, ⟨⟨a3, b3, (some v), d3⟩, b2, c2, d2⟩, d1⟩⟩) a2) c1) d0) t
noncomputable def B140 : SetT R4 := fun v t K => N4.rec (motive := fun _ => An) (fun a0 b0 c0 d0 => N4.rec (motive := fun _ => An) (fun a1 b1 c1 d1 => N4.rec (motive := fun _ => An) (fun a2 b2 c2 d2 => N4.rec (motive := fun _ => An) (fun a3 b3 c3 d3 => K ⟨⟨a1, b1, c1, ⟨⟨a3, b3, (some v), d3⟩, b2, c2, d2⟩⟩, b0, c0, d0⟩) a2) d1) a0) t
noncomputable def B141 : SetT R4 := fun v t K => N4.rec (motive := fun _ => An) (fun a0 b0 c0 d0 => N4.rec (motive := fun _ => An) (fun a1 b1 c1 d1 => N4.rec (motive := fun _ => An) (fun a2 b2 c2 d2 => N4.rec (motive := fun _ => An) (fun a3 b3 c3 d3 => K ⟨a0, ⟨a1, b1, c1, ⟨⟨a3, b3, (some v), d3⟩, b2, c2, d2⟩⟩, c0, d0⟩) a2) d1) b0) t
noncomputable def B142 : SetT R4 := fun v t K => N4.rec (motive := fun _ => An) (fun a0 b0 c0 d0 => N4.rec (motive := fun _ => An) (fun a1 b1 c1 d1 => N4.rec (motive := fun _ => An) (fun a2 b2 c2 d2 => N4.rec (motive := fun _ => An) (fun a3 b3 c3 d3 => K ⟨a0, b0, ⟨a1, b1, c1, ⟨⟨a3, b3, (some v), d3⟩, b2, c2, d2⟩⟩, d0⟩) a2) d1) c0) t
noncomputable def B143 : SetT R4 := fun v t K => N4.rec (motive := fun _ => An) (fun a0 b0 c0 d0 => N4.rec (motive := fun _ => An) (fun a1 b1 c1 d1 => N4.rec (motive := fun _ => An) (fun a2 b2 c2 d2 => N4.rec (motive := fun _ => An) (fun a3 b3 c3 d3 => K ⟨a0, b0, c0, ⟨a1, b1, c1, ⟨⟨a3, b3, (some v), d3⟩, b2, c2, d2⟩⟩⟩) a2) d1) d0) t
noncomputable def B144 : SetT R4 := fun v t K => N4.rec (motive := fun _ => An) (fun a0 b0 c0 d0 => N4.rec (motive := fun _ => An) (fun a1 b1 c1 d1 => N4.rec (motive := fun _ => An) (fun a2 b2 c2 d2 => N4.rec (motive := fun _ => An) (fun a3 b3 c3 d3 => K ⟨⟨⟨a2, ⟨a3, b3, (some v), d3⟩, c2, d2⟩, b1, c1, d1⟩, b0, c0, d0⟩) b2) a1) a0) t
noncomputable def B145 : SetT R4 := fun v t K => N4.rec (motive := fun _ => An) (fun a0 b0 c0 d0 => N4.rec (motive := fun _ => An) (fun a1 b1 c1 d1 => N4.rec (motive := fun _ => An) (fun a2 b2 c2 d2 => N4.rec (motive := fun _ => An) (fun a3 b3 c3 d3 => K ⟨a0, ⟨⟨a2, ⟨a3, b3, (some v), d3⟩, c2, d2⟩, b1, c1, d1⟩, c0, d0⟩) b2) a1) b0) t
noncomputable def B146 : SetT R4 := fun v t K => N4.rec (motive := fun _ => An) (fun a0 b0 c0 d0 => N4.rec (motive := fun _ => An) (fun a1 b1 c1 d1 => N4.rec (motive := fun _ => An) (fun a2 b2 c2 d2 => N4.rec (motive := fun _ => An) (fun a3 b3 c3 d3 => K ⟨a0, b0, ⟨⟨a2, ⟨a3, b3, (some v), d3⟩, c2, d2⟩, b1, c1, d1⟩, d0⟩) b2) a1) c0) t
noncomputable def B147 : SetT R4 := fun v t K => N4.rec (motive := fun _ => An) (fun a0 b0 c0 d0 => N4.rec (motive := fun _ => An) (fun a1 b1 c1 d1 => N4.rec (motive := fun _ => An) (fun a2 b2 c2 d2 => N4.rec (motive := fun _ => An) (fun a3 b3 c3 d3 => K ⟨a0, b0, c0, ⟨⟨a2, ⟨a3, b3, (some v), d3⟩, c2, d2⟩, b1, c1, d1⟩⟩) b2) a1) d0) t
noncomputable def B148 : SetT R4 := fun v t K => N4.rec (motive := fun _ => An) (fun a0 b0 c0 d0 => N4.rec (motive := fun _ => An) (fun a1 b1 c1 d1 => N4.rec (motive := fun _ => An) (fun a2 b2 c2 d2 => N4.rec (motive := fun _ => An) (fun a3 b3 c3 d3 => K ⟨⟨a1, ⟨a2, ⟨a3, b3, (some v), d3⟩, c2, d2⟩, c1, d1⟩, b0, c0, d0⟩) b2) b1) a0) t
noncomputable def B149 : SetT R4 := fun v t K => N4.rec (motive := fun _ => An) (fun a0 b0 c0 d0 => N4.rec (motive := fun _ => An) (fun a1 b1 c1 d1 => N4.rec (motive := fun _ => An) (fun a2 b2 c2 d2 => N4.rec (motive := fun _ => An) (fun a3 b3 c3 d3 => K ⟨a0, ⟨a1, ⟨a2, ⟨a3, b3, (some v), d3⟩, c2, d2⟩, c1, d1⟩, c0, d0⟩) b2) b1) b0) t
noncomputable def B150 : SetT R4 := fun v t K => N4.rec (motive := fun _ => An) (fun a0 b0 c0 d0 => N4.rec (motive := fun _ => An) (fun a1 b1 c1 d1 => N4.rec (motive := fun _ => An) (fun a2 b2 c2 d2 => N4.rec (motive := fun _ => An) (fun a3 b3 c3 d3 => K ⟨a0, b0, ⟨a1, ⟨a2, ⟨a3, b3, (some v), d3⟩, c2, d2⟩, c1, d1⟩, d0⟩) b2) b1) c0) t
noncomputable def B151 : SetT R4 := fun v t K => N4.rec (motive := fun _ => An) (fun a0 b0 c0 d0 => N4.rec (motive := fun _ => An) (fun a1 b1 c1 d1 => N4.rec (motive := fun _ => An) (fun a2 b2 c2 d2 => N4.rec (motive := fun _ => An) (fun a3 b3 c3 d3 => K ⟨a0, b0, c0, ⟨a1, ⟨a2, ⟨a3, b3, (some v), d3⟩, c2, d2⟩, c1, d1⟩⟩) b2) b1) d0) t
noncomputable def B152 : SetT R4 := fun v t K => N4.rec (motive := fun _ => An) (fun a0 b0 c0 d0 => N4.rec (motive := fun _ => An) (fun a1 b1 c1 d1 => N4.rec (motive := fun _ => An) (fun a2 b2 c2 d2 => N4.rec (motive := fun _ => An) (fun a3 b3 c3 d3 => K ⟨⟨a1, b1, ⟨a2, ⟨a3, b3, (some v), d3⟩, c2, d2⟩, d1⟩, b0, c0, d0⟩) b2) c1) a0) t
noncomputable def B153 : SetT R4 := fun v t K => N4.rec (motive := fun _ => An) (fun a0 b0 c0 d0 => N4.rec (motive := fun _ => An) (fun a1 b1 c1 d1 => N4.rec (motive := fun _ => An) (fun a2 b2 c2 d2 => N4.rec (motive := fun _ => An) (fun a3 b3 c3 d3 => K ⟨a0, ⟨a1, b1, ⟨a2, ⟨a3, b3, (some v), d3⟩, c2, d2⟩, d1⟩, c0, d0⟩) b2) c1) b0) t
noncomputable def B154 : SetT R4 := fun v t K => N4.rec (motive := fun _ => An) (fun a0 b0 c0 d0 => N4.rec (motive := fun _ => An) (fun a1 b1 c1 d1 => N4.rec (motive := fun _ => An) (fun a2 b2 c2 d2 => N4.rec (motive := fun _ => An) (fun a3 b3 c3 d3 => K ⟨a0, b0, ⟨a1, b1, ⟨a2, ⟨a3, b3, (some v), d3⟩, c2, d2⟩, d1⟩, d0⟩) b2) c1) c0) t
noncomputable def B155 : SetT R4 := fun v t K => N4.rec (motive := fun _ => An) (fun a0 b0 c0 d0 => N4.rec (motive := fun _ => An) (fun a1 b1 c1 d1 => N4.rec (motive := fun _ => An) (fun a2 b2 c2 d2 => N4.rec (motive := fun _ => An) (fun a3 b3 c3 d3 => K ⟨a0, b0, c0, ⟨a1, b1, ⟨a2, ⟨a3, b3, (some v), d3⟩, c2, d2⟩, d1⟩⟩) b2) c1) d0) t
noncomputable def B156 : SetT R4 := fun v t K => N4.rec (motive := fun _ => An) (fun a0 b0 c0 d0 => N4.rec (motive := fun _ => An) (fun a1 b1 c1 d1 => N4.rec (motive := fun _ => An) (fun a2 b2 c2 d2 => N4.rec (motive := fun _ => An) (fun a3 b3 c3 d3 => K ⟨⟨a1, b1, c1, ⟨a2, ⟨a3, b3, (some v), d3⟩, c2, d2⟩⟩, b0, c0, d0⟩) b2) d1) a0) t
noncomputable def B157 : SetT R4 := fun v t K => N4.rec (motive := fun _ => An) (fun a0 b0 c0 d0 => N4.rec (motive := fun _ => An) (fun a1 b1 c1 d1 => N4.rec (motive := fun _ => An) (fun a2 b2 c2 d2 => N4.rec (motive := fun _ => An) (fun a3 b3 c3 d3 => K ⟨a0, ⟨a1, b1, c1, ⟨a2, ⟨a3, b3, (some v), d3⟩, c2, d2⟩⟩, c0, d0⟩) b2) d1) b0) t
noncomputable def B158 : SetT R4 := fun v t K => N4.rec (motive := fun _ => An) (fun a0 b0 c0 d0 => N4.rec (motive := fun _ => An) (fun a1 b1 c1 d1 => N4.rec (motive := fun _ => An) (fun a2 b2 c2 d2 => N4.rec (motive := fun _ => An) (fun a3 b3 c3 d3 => K ⟨a0, b0, ⟨a1, b1, c1, ⟨a2, ⟨a3, b3, (some v), d3⟩, c2, d2⟩⟩, d0⟩) b2) d1) c0) t
noncomputable def B159 : SetT R4 := fun v t K => N4.rec (motive := fun _ => An) (fun a0 b0 c0 d0 => N4.rec (motive := fun _ => An) (fun a1 b1 c1 d1 => N4.rec (motive := fun _ => An) (fun a2 b2 c2 d2 => N4.rec (motive := fun _ => An) (fun a3 b3 c3 d3 => K ⟨a0, b0, c0, ⟨a1, b1, c1, ⟨a2, ⟨a3, b3, (some v), d3⟩, c2, d2⟩⟩⟩) b2) d1) d0) t
noncomputable def B160 : SetT R4 := fun v t K => N4.rec (motive := fun _ => An) (fun a0 b0 c0 d0 => N4.rec (motive := fun _ => An) (fun a1 b1 c1 d1 => N4.rec (motive := fun _ => An) (fun a2 b2 c2 d2 => N4.rec (motive := fun _ => An) (fun a3 b3 c3 d3 => K ⟨⟨⟨a2, b2, ⟨a3, b3, (some v), d3⟩, d2⟩, b1, c1, d1⟩, b0, c0, d0⟩) c2) a1) a0) t
noncomputable def B161 : SetT R4 := fun v t K => N4.rec (motive := fun _ => An) (fun a0 b0 c0 d0 => N4.rec (motive := fun _ => An) (fun a1 b1 c1 d1 => N4.rec (motive := fun _ => An) (fun a2 b2 c2 d2 => N4.rec (motive := fun _ => An) (fun a3 b3 c3 d3 => K ⟨a0, ⟨⟨a2, b2, ⟨a3, b3, (some v), d3⟩, d2⟩, b1, c1, d1⟩, c0, d0⟩) c2) a1) b0) t
noncomputable def B162 : SetT R4 := fun v t K => N4.rec (motive := fun _ => An) (fun a0 b0 c0 d0 => N4.rec (motive := fun _ => An) (fun a1 b1 c1 d1 => N4.rec (motive := fun _ => An) (fun a2 b2 c2 d2 => N4.rec (motive := fun _ => An) (fun a3 b3 c3 d3 => K ⟨a0, b0, ⟨⟨a2, b2, ⟨a3, b3, (some v), d3⟩, d2⟩, b1, c1, d1⟩, d0⟩) c2) a1) c0) t
noncomputable def B163 : SetT R4 := fun v t K => N4.rec (motive := fun _ => An) (fun a0 b0 c0 d0 => N4.rec (motive := fun _ => An) (fun a1 b1 c1 d1 => N4.rec (motive := fun _ => An) (fun a2 b2 c2 d2 => N4.rec (motive := fun _ => An) (fun a3 b3 c3 d3 => K ⟨a0, b0, c0, ⟨⟨a2, b2, ⟨a3, b3, (some v), d3⟩, d2⟩, b1, c1, d1⟩⟩) c2) a1) d0) t
noncomputable def B164 : SetT R4 := fun v t K => N4.rec (motive := fun _ => An) (fun a0 b0 c0 d0 => N4.rec (motive := fun _ => An) (fun a1 b1 c1 d1 => N4.rec (motive := fun _ => An) (fun a2 b2 c2 d2 => N4.rec (motive := fun _ => An) (fun a3 b3 c3 d3 => K ⟨⟨a1, ⟨a2, b2, ⟨a3, b3, (some v), d3⟩, d2⟩, c1, d1⟩, b0, c0, d0⟩) c2) b1) a0) t
noncomputable def B165 : SetT R4 := fun v t K => N4.rec (motive := fun _ => An) (fun a0 b0 c0 d0 => N4.rec (motive := fun _ => An) (fun a1 b1 c1 d1 => N4.rec (motive := fun _ => An) (fun a2 b2 c2 d2 => N4.rec (motive := fun _ => An) (fun a3 b3 c3 d3 => K ⟨a0, ⟨a1, ⟨a2, b2, ⟨a3, b3, (some v), d3⟩, d2⟩, c1, d1⟩, c0, d0⟩) c2) b1) b0) t
noncomputable def B166 : SetT R4 := fun v t K => N4.rec (motive := fun _ => An) (fun a0 b0 c0 d0 => N4.rec (motive := fun _ => An) (fun a1 b1 c1 d1 => N4.rec (motive := fun _ => An) (fun a2 b2 c2 d2 => N4.rec (motive := fun _ => An) (fun a3 b3 c3 d3 => K ⟨a0, b0, ⟨a1, ⟨a2, b2, ⟨a3, b3, (some v), d3⟩, d2⟩, c1, d1⟩, d0⟩) c2) b1) c0) t
noncomputable def B167 : SetT R4 := fun v t K => N4.rec (motive := fun _ => An) (fun a0 b0 c0 d0 => N4.rec (motive := fun _ => An) (fun a1 b1 c1 d1 => N4.rec (motive := fun _ => An) (fun a2 b2 c2 d2 => N4.rec (motive := fun _ => An) (fun a3 b3 c3 d3 => K ⟨a0, b0, c0, ⟨a1, ⟨a2, b2, ⟨a3, b3, (some v), d3⟩, d2⟩, c1, d1⟩⟩) c2) b1) d0) t
noncomputable def B168 : SetT R4 := fun v t K => N4.rec (motive := fun _ => An) (fun a0 b0 c0 d0 => N4.rec (motive := fun _ => An) (fun a1 b1 c1 d1 => N4.rec (motive := fun _ => An) (fun a2 b2 c2 d2 => N4.rec (motive := fun _ => An) (fun a3 b3 c3 d3 => K ⟨⟨a1, b1, ⟨a2, b2, ⟨a3, b3, (some v), d3⟩, d2⟩, d1⟩, b0, c0, d0⟩) c2) c1) a0) t
noncomputable def B169 : SetT R4 := fun v t K => N4.rec (motive := fun _ => An) (fun a0 b0 c0 d0 => N4.rec (motive := fun _ => An) (fun a1 b1 c1 d1 => N4.rec (motive := fun _ => An) (fun a2 b2 c2 d2 => N4.rec (motive := fun _ => An) (fun a3 b3 c3 d3 => K ⟨a0, ⟨a1, b1, ⟨a2, b2, ⟨a3, b3, (some v), d3⟩, d2⟩, d1⟩, c0, d0⟩) c2) c1) b0) t
noncomputable def B170 : SetT R4 := fun v t K => N4.rec (motive := fun _ => An) (fun a0 b0 c0 d0 => N4.rec (motive := fun _ => An) (fun a1 b1 c1 d1 => N4.rec (motive := fun _ => An) (fun a2 b2 c2 d2 => N4.rec (motive := fun _ => An) (fun a3 b3 c3 d3 => K ⟨a0, b0, ⟨a1, b1, ⟨a2, b2, ⟨a3, b3, (some v), d3⟩, d2⟩, d1⟩, d0⟩) c2) c1) c0) t
noncomputable def B171 : SetT R4 := fun v t K => N4.rec (motive := fun _ => An) (fun a0 b0 c0 d0 => N4.rec (motive := fun _ => An) (fun a1 b1 c1 d1 => N4.rec (motive := fun _ => An) (fun a2 b2 c2 d2 => N4.rec (motive := fun _ => An) (fun a3 b3 c3 d3 => K ⟨a0, b0, c0, ⟨a1, b1, ⟨a2, b2, ⟨a3, b3, (some v), d3⟩, d2⟩, d1⟩⟩) c2) c1) d0) t
noncomputable def B172 : SetT R4 := fun v t K => N4.rec (motive := fun _ => An) (fun a0 b0 c0 d0 => N4.rec (motive := fun _ => An) (fun a1 b1 c1 d1 => N4.rec (motive := fun _ => An) (fun a2 b2 c2 d2 => N4.rec (motive := fun _ => An) (fun a3 b3 c3 d3 => K ⟨⟨a1, b1, c1, ⟨a2, b2, ⟨a3, b3, (some v), d3⟩, d2⟩⟩, b0, c0, d0⟩) c2) d1) a0) t
noncomputable def B173 : SetT R4 := fun v t K => N4.rec (motive := fun _ => An) (fun a0 b0 c0 d0 => N4.rec (motive := fun _ => An) (fun a1 b1 c1 d1 => N4.rec (motive := fun _ => An) (fun a2 b2 c2 d2 => N4.rec (motive := fun _ => An) (fun a3 b3 c3 d3 => K ⟨a0, ⟨a1, b1, c1, ⟨a2, b2, ⟨a3, b3, (some v), d3⟩, d2⟩⟩, c0, d0⟩) c2) d1) b0) t
noncomputable def B174 : SetT R4 := fun v t K => N4.rec (motive := fun _ => An) (fun a0 b0 c0 d0 => N4.rec (motive := fun _ => An) (fun a1 b1 c1 d1 => N4.rec (motive := fun _ => An) (fun a2 b2 c2 d2 => N4.rec (motive := fun _ => An) (fun a3 b3 c3 d3 => K ⟨a0, b0, ⟨a1, b1, c1, ⟨a2, b2, ⟨a3, b3, (some v), d3⟩, d2⟩⟩, d0⟩) c2) d1) c0) t
noncomputable def B175 : SetT R4 := fun v t K => N4.rec (motive := fun _ => An) (fun a0 b0 c0 d0 => N4.rec (motive := fun _ => An) (fun a1 b1 c1 d1 => N4.rec (motive := fun _ => An) (fun a2 b2 c2 d2 => N4.rec (motive := fun _ => An) (fun a3 b3 c3 d3 => K ⟨a0, b0, c0, ⟨a1, b1, c1, ⟨a2, b2, ⟨a3, b3, (some v), d3⟩, d2⟩⟩⟩) c2) d1) d0) t
noncomputable def B176 : SetT R4 := fun v t K => N4.rec (motive := fun _ => An) (fun a0 b0 c0 d0 => N4.rec (motive := fun _ => An) (fun a1 b1 c1 d1 => N4.rec (motive := fun _ => An) (fun a2 b2 c2 d2 => N4.rec (motive := fun _ => An) (fun a3 b3 c3 d3 => K ⟨⟨⟨a2, b2, c2, ⟨a3, b3, (some v), d3⟩⟩, b1, c1, d1⟩, b0, c0, d0⟩) d2) a1) a0) t
noncomputable def B177 : SetT R4 := fun v t K => N4.rec (motive := fun _ => An) (fun a0 b0 c0 d0 => N4.rec (motive := fun _ => An) (fun a1 b1 c1 d1 => N4.rec (motive := fun _ => An) (fun a2 b2 c2 d2 => N4.rec (motive := fun _ => An) (fun a3 b3 c3 d3 => K ⟨a0, ⟨⟨a2, b2, c2, ⟨a3, b3, (some v), d3⟩⟩, b1, c1, d1⟩, c0, d0⟩) d2) a1) b0) t
noncomputable def B178 : SetT R4 := fun v t K => N4.rec (motive := fun _ => An) (fun a0 b0 c0 d0 => N4.rec (motive := fun _ => An) (fun a1 b1 c1 d1 => N4.rec (motive := fun _ => An) (fun a2 b2 c2 d2 => N4.rec (motive := fun _ => An) (fun a3 b3 c3 d3 => K ⟨a0, b0, ⟨⟨a2, b2, c2, ⟨a3, b3, (some v), d3⟩⟩, b1, c1, d1⟩, d0⟩) d2) a1) c0) t
noncomputable def B179 : SetT R4 := fun v t K => N4.rec (motive := fun _ => An) (fun a0 b0 c0 d0 => N4.rec (motive := fun _ => An) (fun a1 b1 c1 d1 => N4.rec (motive := fun _ => An) (fun a2 b2 c2 d2 => N4.rec (motive := fun _ => An) (fun a3 b3 c3 d3 => K ⟨a0, b0, c0, ⟨⟨a2, b2, c2, ⟨a3, b3, (some v), d3⟩⟩, b1, c1, d1⟩⟩) d2) a1) d0) t
noncomputable def B180 : SetT R4 := fun v t K => N4.rec (motive := fun _ => An) (fun a0 b0 c0 d0 => N4.rec (motive := fun _ => An) (fun a1 b1 c1 d1 => N4.rec (motive := fun _ => An) (fun a2 b2 c2 d2 => N4.rec (motive := fun _ => An) (fun a3 b3 c3 d3 => K ⟨⟨a1, ⟨a2, b2, c2, ⟨a3, b3, (some v), d3⟩⟩, c1, d1⟩, b0, c0, d0⟩) d2) b1) a0) t
noncomputable def B181 : SetT R4 := fun v t K => N4.rec (motive := fun _ => An) (fun a0 b0 c0 d0 => N4.rec (motive := fun _ => An) (fun a1 b1 c1 d1 => N4.rec (motive := fun _ => An) (fun a2 b2 c2 d2 => N4.rec (motive := fun _ => An) (fun a3 b3 c3 d3 => K ⟨a0, ⟨a1, ⟨a2, b2, c2, ⟨a3, b3, (some v), d3⟩⟩, c1, d1⟩, c0, d0⟩) d2) b1) b0) t
noncomputable def B182 : SetT R4 := fun v t K => N4.rec (motive := fun _ => An) (fun a0 b0 c0 d0 => N4.rec (motive := fun _ => An) (fun a1 b1 c1 d1 => N4.rec (motive := fun _ => An) (fun a2 b2 c2 d2 => N4.rec (motive := fun _ => An) (fun a3 b3 c3 d3 => K ⟨a0, b0, ⟨a1, ⟨a2, b2, c2, ⟨a3, b3, (some v), d3⟩⟩, c1, d1⟩, d0⟩) d2) b1) c0) t
noncomputable def B183 : SetT R4 := fun v t K => N4.rec (motive := fun _ => An) (fun a0 b0 c0 d0 => N4.rec (motive := fun _ => An) (fun a1 b1 c1 d1 => N4.rec (motive := fun _ => An) (fun a2 b2 c2 d2 => N4.rec (motive := fun _ => An) (fun a3 b3 c3 d3 => K ⟨a0, b0, c0, ⟨a1, ⟨a2, b2, c2, ⟨a3, b3, (some v), d3⟩⟩, c1, d1⟩⟩) d2) b1) d0) t
noncomputable def B184 : SetT R4 := fun v t K => N4.rec (motive := fun _ => An) (fun a0 b0 c0 d0 => N4.rec (motive := fun _ => An) (fun a1 b1 c1 d1 => N4.rec (motive := fun _ => An) (fun a2 b2 c2 d2 => N4.rec (motive := fun _ => An) (fun a3 b3 c3 d3 => K ⟨⟨a1, b1, ⟨a2, b2, c2, ⟨a3, b3, (some v), d3⟩⟩, d1⟩, b0, c0, d0⟩) d2) c1) a0) t
noncomputable def B185 : SetT R4 := fun v t K => N4.rec (motive := fun _ => An) (fun a0 b0 c0 d0 => N4.rec (motive := fun _ => An) (fun a1 b1 c1 d1 => N4.rec (motive := fun _ => An) (fun a2 b2 c2 d2 => N4.rec (motive := fun _ => An) (fun a3 b3 c3 d3 => K ⟨a0, ⟨a1, b1, ⟨a2, b2, c2, ⟨a3, b3, (some v), d3⟩⟩, d1⟩, c0, d0⟩) d2) c1) b0) t
noncomputable def B186 : SetT R4 := fun v t K => N4.rec (motive := fun _ => An) (fun a0 b0 c0 d0 => N4.rec (motive := fun _ => An) (fun a1 b1 c1 d1 => N4.rec (motive := fun _ => An) (fun a2 b2 c2 d2 => N4.rec (motive := fun _ => An) (fun a3 b3 c3 d3 => K ⟨a0, b0, ⟨a1, b1, ⟨a2, b2, c2, ⟨a3, b3, (some v), d3⟩⟩, d1⟩, d0⟩) d2) c1) c0) t
noncomputable def B187 : SetT R4 := fun v t K => N4.rec (motive := fun _ => An) (fun a0 b0 c0 d0 => N4.rec (motive := fun _ => An) (fun a1 b1 c1 d1 => N4.rec (motive := fun _ => An) (fun a2 b2 c2 d2 => N4.rec (motive := fun _ => An) (fun a3 b3 c3 d3 => K ⟨a0, b0, c0, ⟨a1, b1, ⟨a2, b2, c2, ⟨a3, b3, (some v), d3⟩⟩, d1⟩⟩) d2) c1) d0) t
noncomputable def B188 : SetT R4 := fun v t K => N4.rec (motive := fun _ => An) (fun a0 b0 c0 d0 => N4.rec (motive := fun _ => An) (fun a1 b1 c1 d1 => N4.rec (motive := fun _ => An) (fun a2 b2 c2 d2 => N4.rec (motive := fun _ => An) (fun a3 b3 c3 d3 => K ⟨⟨a1, b1, c1, ⟨a2, b2, c2, ⟨a3, b3, (some v), d3⟩⟩⟩, b0, c0, d0⟩) d2) d1) a0) t
noncomputable def B189 : SetT R4 := fun v t K => N4.rec (motive := fun _ => An) (fun a0 b0 c0 d0 => N4.rec (motive := fun _ => An) (fun a1 b1 c1 d1 => N4.rec (motive := fun _ => An) (fun a2 b2 c2 d2 => N4.rec (motive := fun _ => An) (fun a3 b3 c3 d3 => K ⟨a0, ⟨a1, b1, c1, ⟨a2, b2, c2, ⟨a3, b3, (some v), d3⟩⟩⟩, c0, d0⟩) d2) d1) b0) t
noncomputable def B190 : SetT R4 := fun v t K => N4.rec (motive := fun _ => An) (fun a0 b0 c0 d0 => N4.rec (motive := fun _ => An) (fun a1 b1 c1 d1 => N4.rec (motive := fun _ => An) (fun a2 b2 c2 d2 => N4.rec (motive := fun _ => An) (fun a3 b3 c3 d3 => K ⟨a0, b0, ⟨a1, b1, c1, ⟨a2, b2, c2, ⟨a3, b3, (some v), d3⟩⟩⟩, d0⟩) d2) d1) c0) t
noncomputable def B191 : SetT R4 := fun v t K => N4.rec (motive := fun _ => An) (fun a0 b0 c0 d0 => N4.rec (motive := fun _ => An) (fun a1 b1 c1 d1 => N4.rec (motive := fun _ => An) (fun a2 b2 c2 d2 => N4.rec (motive := fun _ => An) (fun a3 b3 c3 d3 => K ⟨a0, b0, c0, ⟨a1, b1, c1, ⟨a2, b2, c2, ⟨a3, b3, (some v), d3⟩⟩⟩⟩) d2) d1) d0) t
noncomputable def B192 : SetT R4 := fun v t K => N4.rec (motive := fun _ => An) (fun a0 b0 c0 d0 => N4.rec (motive := fun _ => An) (fun a1 b1 c1 d1 => N4.rec (motive := fun _ => An) (fun a2 b2 c2 d2 => N4.rec (motive := fun _ => An) (fun a3 b3 c3 d3 => K ⟨⟨⟨⟨a3, b3, c3, (some v)⟩, b2, c2, d2⟩, b1, c1, d1⟩, b0, c0, d0⟩) a2) a1) a0) t
noncomputable def B193 : SetT R4 := fun v t K => N4.rec (motive := fun _ => An) (fun a0 b0 c0 d0 => N4.rec (motive := fun _ => An) (fun a1 b1 c1 d1 => N4.rec (motive := fun _ => An) (fun a2 b2 c2 d2 => N4.rec (motive := fun _ => An) (fun a3 b3 c3 d3 => K ⟨a0, ⟨⟨⟨a3, b3, c3, (some v)⟩, b2, c2, d2⟩, b1, c1, d1⟩, c0, d0⟩) a2) a1) b0) t
noncomputable def B194 : SetT R4 := fun v t K => N4.rec (motive := fun _ => An) (fun a0 b0 c0 d0 => N4.rec (motive := fun _ => An) (fun a1 b1 c1 d1 => N4.rec (motive := fun _ => An) (fun a2 b2 c2 d2 => N4.rec (motive := fun _ => An) (fun a3 b3 c3 d3 => K ⟨a0, b0, ⟨⟨⟨a3, b3, c3, (some v)⟩, b2, c2, d2⟩, b1, c1, d1⟩, d0⟩) a2) a1) c0) t
noncomputable def B195 : SetT R4 := fun v t K => N4.rec (motive := fun _ => An) (fun a0 b0 c0 d0 => N4.rec (motive := fun _ => An) (fun a1 b1 c1 d1 => N4.rec (motive := fun _ => An) (fun a2 b2 c2 d2 => N4.rec (motive := fun _ => An) (fun a3 b3 c3 d3 => K ⟨a0, b0, c0, ⟨⟨⟨a3, b3, c3, (some v)⟩, b2, c2, d2⟩, b1, c1, d1⟩⟩) a2) a1) d0) t
noncomputable def B196 : SetT R4 := fun v t K => N4.rec (motive := fun _ => An) (fun a0 b0 c0 d0 => N4.rec (motive := fun _ => An) (fun a1 b1 c1 d1 => N4.rec (motive := fun _ => An) (fun a2 b2 c2 d2 => N4.rec (motive := fun _ => An) (fun a3 b3 c3 d3 => K ⟨⟨a1, ⟨⟨a3, b3, c3, (some v)⟩, b2, c2, d2⟩, c1, d1⟩, b0, c0, d0⟩) a2) b1) a0) t
noncomputable def B197 : SetT R4 := fun v t K => N4.rec (motive := fun _ => An) (fun a0 b0 c0 d0 => N4.rec (motive := fun _ => An) (fun a1 b1 c1 d1 => N4.rec (motive := fun _ => An) (fun a2 b2 c2 d2 => N4.rec (motive := fun _ => An) (fun a3 b3 c3 d3 => K ⟨a0, ⟨a1, ⟨⟨a3, b3, c3, (some v)⟩, b2, c2, d2⟩, c1, d1⟩, c0, d0⟩) a2) b1) b0) t
noncomputable def B198 : SetT R4 := fun v t K => N4.rec (motive := fun _ => An) (fun a0 b0 c0 d0 => N4.rec (motive := fun _ => An) (fun a1 b1 c1 d1 => N4.rec (motive := fun _ => An) (fun a2 b2 c2 d2 => N4.rec (motive := fun _ => An) (fun a3 b3 c3 d3 => K ⟨a0, b0, ⟨a1, ⟨⟨a3, b3, c3, (some v)⟩, b2, c2, d2⟩, c1, d1⟩, d0⟩) a2) b1) c0) t
noncomputable def B199 : SetT R4 := fun v t K => N4.rec (motive := fun _ => An) (fun a0 b0 c0 d0 => N4.rec (motive := fun _ => An) (fun a1 b1 c1 d1 => N4.rec (motive := fun _ => An) (fun a2 b2 c2 d2 => N4.rec (motive := fun _ => An) (fun a3 b3 c3 d3 => K ⟨a0, b0, c0, ⟨a1, ⟨⟨a3, b3, c3, (some v)⟩, b2, c2, d2⟩, c1, d1⟩⟩) a2) b1) d0) t
noncomputable def B200 : SetT R4 := fun v t K => N4.rec (motive := fun _ => An) (fun a0 b0 c0 d0 => N4.rec (motive := fun _ => An) (fun a1 b1 c1 d1 => N4.rec (motive := fun _ => An) (fun a2 b2 c2 d2 => N4.rec (motive := fun _ => An) (fun a3 b3 c3 d3 => K ⟨⟨a1, b1, ⟨⟨a3, b3, c3, (some v)⟩, b2, c2, d2⟩, d1⟩, b0, c0, d0⟩) a2) c1) a0) t
noncomputable def B201 : SetT R4 := fun v t K => N4.rec (motive := fun _ => An) (fun a0 b0 c0 d0 => N4.rec (motive := fun _ => An) (fun a1 b1 c1 d1 => N4.rec (motive := fun _ => An) (fun a2 b2 c2 d2 => N4.rec (motive := fun _ => An) (fun a3 b3 c3 d3 => K ⟨a0, ⟨a1, b1, ⟨⟨a3, b3, c3, (some v)⟩, b2, c2, d2⟩, d1⟩, c0, d0⟩) a2) c1) b0) t
noncomputable def B202 : SetT R4 := fun v t K => N4.rec (motive := fun _ => An) (fun a0 b0 c0 d0 => N4.rec (motive := fun _ => An) (fun a1 b1 c1 d1 => N4.rec (motive := fun _ => An) (fun a2 b2 c2 d2 => N4.rec (motive := fun _ => An) (fun a3 b3 c3 d3 => K ⟨a0, b0, ⟨a1, b1, ⟨⟨a3, b3, c3, (some v)⟩, b2, c2, d2⟩, d1⟩, d0⟩) a2) c1) c0) t
noncomputable def B203 : SetT R4 := fun v t K => N4.rec (motive := fun _ => An) (fun a0 b0 c0 d0 => N4.rec (motive := fun _ => An) (fun a1 b1 c1 d1 => N4.rec (motive := fun _ => An) (fun a2 b2 c2 d2 => N4.rec (motive := fun _ => An) (fun a3 b3 c3 d3 => K ⟨a0, b0, c0, ⟨a1, b1, ⟨⟨a3, b3, c3, (some v)⟩, b2, c2, d2⟩, d1⟩⟩) a2) c1) d0) t
noncomputable def B204 : SetT R4 := fun v t K => N4.rec (motive := fun _ => An) (fun a0 b0 c0 d0 => N4.rec (motive := fun _ => An) (fun a1 b1 c1 d1 => N4.rec (motive := fun _ => An) (fun a2 b2 c2 d2 => N4.rec (motive := fun _ => An) (fun a3 b3 c3 d3 => K ⟨⟨a1, b1, c1, ⟨⟨a3, b3, c3, (some v)⟩, b2, c2, d2⟩⟩, b0, c0, d0⟩) a2) d1) a0) t
noncomputable def B205 : SetT R4 := fun v t K => N4.rec (motive := fun _ => An) (fun a0 b0 c0 d0 => N4.rec (motive := fun _ => An) (fun a1 b1 c1 d1 => N4.rec (motive := fun _ => An) (fun a2 b2 c2 d2 => N4.rec (motive := fun _ => An) (fun a3 b3 c3 d3 => K ⟨a0, ⟨a1, b1, c1, ⟨⟨a3, b3, c3, (some v)⟩, b2, c2, d2⟩⟩, c0, d0⟩) a2) d1) b0) t
noncomputable def B206 : SetT R4 := fun v t K => N4.rec (motive := fun _ => An) (fun a0 b0 c0 d0 => N4.rec (motive := fun _ => An) (fun a1 b1 c1 d1 => N4.rec (motive := fun _ => An) (fun a2 b2 c2 d2 => N4.rec (motive := fun _ => An) (fun a3 b3 c3 d3 => K ⟨a0, b0, ⟨a1, b1, c1, ⟨⟨a3, b3, c3, (some v)⟩, b2, c2, d2⟩⟩, d0⟩) a2) d1) c0) t
noncomputable def B207 : SetT R4 := fun v t K => N4.rec (motive := fun _ => An) (fun a0 b0 c0 d0 => N4.rec (motive := fun _ => An) (fun a1 b1 c1 d1 => N4.rec (motive := fun _ => An) (fun a2 b2 c2 d2 => N4.rec (motive := fun _ => An) (fun a3 b3 c3 d3 => K ⟨a0, b0, c0, ⟨a1, b1, c1, ⟨⟨a3, b3, c3, (some v)⟩, b2, c2, d2⟩⟩⟩) a2) d1) d0) t
noncomputable def B208 : SetT R4 := fun v t K => N4.rec (motive := fun _ => An) (fun a0 b0 c0 d0 => N4.rec (motive := fun _ => An) (fun a1 b1 c1 d1 => N4.rec (motive := fun _ => An) (fun a2 b2 c2 d2 => N4.rec (motive := fun _ => An) (fun a3 b3 c3 d3 => K ⟨⟨⟨a2, ⟨a3, b3, c3, (some v)⟩, c2, d2⟩, b1, c1, d1⟩, b0, c0, d0⟩) b2) a1) a0) t
noncomputable def B209 : SetT R4 := fun v t K => N4.rec (motive := fun _ => An) (fun a0 b0 c0 d0 => N4.rec (motive := fun _ => An) (fun a1 b1 c1 d1 => N4.rec (motive := fun _ => An) (fun a2 b2 c2 d2 => N4.rec (motive := fun _ => An) (fun a3 b3 c3 d3 => K ⟨a0, ⟨⟨a2, ⟨a3, b3, c3, (some v)⟩, c2, d2⟩, b1, c1, d1⟩, c0, d0⟩) b2) a1) b0) t
noncomputable def B210 : SetT R4 := fun v t K => N4.rec (motive := fun _ => An) (fun a0 b0 c0 d0 => N4.rec (motive := fun _ => An) (fun a1 b1 c1 d1 => N4.rec (motive := fun _ => An) (fun a2 b2 c2 d2 => N4.rec (motive := fun _ => An) (fun a3 b3 c3 d3 => K ⟨a0, b0, ⟨⟨a2, ⟨a3, b3, c3, (some v)⟩, c2, d2⟩, b1, c1, d1⟩, d0⟩) b2) a1) c0) t
noncomputable def B211 : SetT R4 := fun v t K => N4.rec (motive := fun _ => An) (fun a0 b0 c0 d0 => N4.rec (motive := fun _ => An) (fun a1 b1 c1 d1 => N4.rec (motive := fun _ => An) (fun a2 b2 c2 d2 => N4.rec (motive := fun _ => An) (fun a3 b3 c3 d3 => K ⟨a0, b0, c0, ⟨⟨a2, ⟨a3, b3, c3, (some v)⟩, c2, d2⟩, b1, c1, d1⟩⟩) b2) a1) d0) t
noncomputable def B212 : SetT R4 := fun v t K => N4.rec (motive := fun _ => An) (fun a0 b0 c0 d0 => N4.rec (motive := fun _ => An) (fun a1 b1 c1 d1 => N4.rec (motive := fun _ => An) (fun a2 b2 c2 d2 => N4.rec (motive := fun _ => An) (fun a3 b3 c3 d3 => K ⟨⟨a1, ⟨a2, ⟨a3, b3, c3, (some v)⟩, c2, d2⟩, c1, d1⟩, b0, c0, d0⟩) b2) b1) a0) t
noncomputable def B213 : SetT R4 := fun v t K => N4.rec (motive := fun _ => An) (fun a0 b0 c0 d0 => N4.rec (motive := fun _ => An) (fun a1 b1 c1 d1 => N4.rec (motive := fun _ => An) (fun a2 b2 c2 d2 => N4.rec (motive := fun _ => An) (fun a3 b3 c3 d3 => K ⟨a0, ⟨a1, ⟨a2, ⟨a3, b3, c3, (some v)⟩, c2, d2⟩, c1, d1⟩, c0, d0⟩) b2) b1) b0) t
noncomputable def B214 : SetT R4 := fun v t K => N4.rec (motive := fun _ => An) (fun a0 b0 c0 d0 => N4.rec (motive := fun _ => An) (fun a1 b1 c1 d1 => N4.rec (motive := fun _ => An) (fun a2 b2 c2 d2 => N4.rec (motive := fun _ => An) (fun a3 b3 c3 d3 => K ⟨a0, b0, ⟨a1, ⟨a2, ⟨a3, b3, c3, (some v)⟩, c2, d2⟩, c1, d1⟩, d0⟩) b2) b1) c0) t
noncomputable def B215 : SetT R4 := fun v t K => N4.rec (motive := fun _ => An) (fun a0 b0 c0 d0 => N4.rec (motive := fun _ => An) (fun a1 b1 c1 d1 => N4.rec (motive := fun _ => An) (fun a2 b2 c2 d2 => N4.rec (motive := fun _ => An) (fun a3 b3 c3 d3 => K ⟨a0, b0, c0, ⟨a1, ⟨a2, ⟨a3, b3, c3, (some v)⟩, c2, d2⟩, c1, d1⟩⟩) b2) b1) d0) t
noncomputable def B216 : SetT R4 := fun v t K => N4.rec (motive := fun _ => An) (fun a0 b0 c0 d0 => N4.rec (motive := fun _ => An) (fun a1 b1 c1 d1 => N4.rec (motive := fun _ => An) (fun a2 b2 c2 d2 => N4.rec (motive := fun _ => An) (fun a3 b3 c3 d3 => K ⟨⟨a1, b1, ⟨a2, ⟨a3, b3, c3, (some v)⟩, c2, d2⟩, d1⟩, b0, c0, d0⟩) b2) c1) a0) t
noncomputable def B217 : SetT R4 := fun v t K => N4.rec (motive := fun _ => An) (fun a0 b0 c0 d0 => N4.rec (motive := fun _ => An) (fun a1 b1 c1 d1 => N4.rec (motive := fun _ => An) (fun a2 b2 c2 d2 => N4.rec (motive := fun _ => An) (fun a3 b3 c3 d3 => K ⟨a0, ⟨a1, b1, ⟨a2, ⟨a3, b3, c3, (some v)⟩, c2, d2⟩, d1⟩, c0, d0⟩) b2) c1) b0) t
noncomputable def B218 : SetT R4 := fun v t K => N4.rec (motive := fun _ => An) (fun a0 b0 c0 d0 => N4.rec (motive := fun _ => An) (fun a1 b1 c1 d1 => N4.rec (motive := fun _ => An) (fun a2 b2 c2 d2 => N4.rec (motive := fun _ => An) (fun a3 b3 c3 d3 => K ⟨a0, b0, ⟨a1, b1, ⟨a2, ⟨a3, b3, c3, (some v)⟩, c2, d2⟩, d1⟩, d0⟩) b2) c1) c0) t
noncomputable def B219 : SetT R4 := fun v t K => N4.rec (motive := fun _ => An) (fun a0 b0 c0 d0 => N4.rec (motive := fun _ => An) (fun a1 b1 c1 d1 => N4.rec (motive := fun _ => An) (fun a2 b2 c2 d2 => N4.rec (motive := fun _ => An) (fun a3 b3 c3 d3 => K ⟨a0, b0, c0, ⟨a1, b1, ⟨a2, ⟨a3, b3, c3, (some v)⟩, c2, d2⟩, d1⟩⟩) b2) c1) d0) t
noncomputable def B220 : SetT R4 := fun v t K => N4.rec (motive := fun _ => An) (fun a0 b0 c0 d0 => N4.rec (motive := fun _ => An) (fun a1 b1 c1 d1 => N4.rec (motive := fun _ => An) (fun a2 b2 c2 d2 => N4.rec (motive := fun _ => An) (fun a3 b3 c3 d3 => K ⟨⟨a1, b1, c1, ⟨a2, ⟨a3, b3, c3, (some v)⟩, c2, d2⟩⟩, b0, c0, d0⟩) b2) d1) a0) t
noncomputable def B221 : SetT R4 := fun v t K => N4.rec (motive := fun _ => An) (fun a0 b0 c0 d0 => N4.rec (motive := fun _ => An) (fun a1 b1 c1 d1 => N4.rec (motive := fun _ => An) (fun a2 b2 c2 d2 => N4.rec (motive := fun _ => An) (fun a3 b3 c3 d3 => K ⟨a0, ⟨a1, b1, c1, ⟨a2, ⟨a3, b3, c3, (some v)⟩, c2, d2⟩⟩, c0, d0⟩) b2) d1) b0) t
noncomputable def B222 : SetT R4 := fun v t K => N4.rec (motive := fun _ => An) (fun a0 b0 c0 d0 => N4.rec (motive := fun _ => An) (fun a1 b1 c1 d1 => N4.rec (motive := fun _ => An) (fun a2 b2 c2 d2 => N4.rec (motive := fun _ => An) (fun a3 b3 c3 d3 => K ⟨a0, b0, ⟨a1, b1, c1, ⟨a2, ⟨a3, b3, c3, (some v)⟩, c2, d2⟩⟩, d0⟩) b2) d1) c0) t
noncomputable def B223 : SetT R4 := fun v t K => N4.rec (motive := fun _ => An) (fun a0 b0 c0 d0 => N4.rec (motive := fun _ => An) (fun a1 b1 c1 d1 => N4.rec (motive := fun _ => An) (fun a2 b2 c2 d2 => N4.rec (motive := fun _ => An) (fun a3 b3 c3 d3 => K ⟨a0, b0, c0, ⟨a1, b1, c1, ⟨a2, ⟨a3, b3, c3, (some v)⟩, c2, d2⟩⟩⟩) b2) d1) d0) t
noncomputable def B224 : SetT R4 := fun v t K => N4.rec (motive := fun _ => An) (fun a0 b0 c0 d0 => N4.rec (motive := fun _ => An) (fun a1 b1 c1 d1 => N4.rec (motive := fun _ => An) (fun a2 b2 c2 d2 => N4.rec (motive := fun _ => An) (fun a3 b3 c3 d3 => K ⟨⟨⟨a2, b2, ⟨a3, b3, c3, (some v)⟩, d2⟩, b1, c1, d1⟩, b0, c0, d0⟩) c2) a1) a0) t
noncomputable def B225 : SetT R4 := fun v t K => N4.rec (motive := fun _ => An) (fun a0 b0 c0 d0 => N4.rec (motive := fun _ => An) (fun a1 b1 c1 d1 => N4.rec (motive := fun _ => An) (fun a2 b2 c2 d2 => N4.rec (motive := fun _ => An) (fun a3 b3 c3 d3 => K ⟨a0, ⟨⟨a2, b2, ⟨a3, b3, c3, (some v)⟩, d2⟩, b1, c1, d1⟩, c0, d0⟩) c2) a1) b0) t
noncomputable def B226 : SetT R4 := fun v t K => N4.rec (motive := fun _ => An) (fun a0 b0 c0 d0 => N4.rec (motive := fun _ => An) (fun a1 b1 c1 d1 => N4.rec (motive := fun _ => An) (fun a2 b2 c2 d2 => N4.rec (motive := fun _ => An) (fun a3 b3 c3 d3 => K ⟨a0, b0, ⟨⟨a2, b2, ⟨a3, b3, c3, (some v)⟩, d2⟩, b1, c1, d1⟩, d0⟩) c2) a1) c0) t
noncomputable def B227 : SetT R4 := fun v t K => N4.rec (motive := fun _ => An) (fun a0 b0 c0 d0 => N4.rec (motive := fun _ => An) (fun a1 b1 c1 d1 => N4.rec (motive := fun _ => An) (fun a2 b2 c2 d2 => N4.rec (motive := fun _ => An) (fun a3 b3 c3 d3 => K ⟨a0, b0, c0, ⟨⟨a2, b2, ⟨a3, b3, c3, (some v)⟩, d2⟩, b1, c1, d1⟩⟩) c2) a1) d0) t
noncomputable def B228 : SetT R4 := fun v t K => N4.rec (motive := fun _ => An) (fun a0 b0 c0 d0 => N4.rec (motive := fun _ => An) (fun a1 b1 c1 d1 => N4.rec (motive := fun _ => An) (fun a2 b2 c2 d2 => N4.rec (motive := fun _ => An) (fun a3 b3 c3 d3 => K ⟨⟨a1, ⟨a2, b2, ⟨a3, b3, c3, (some v)⟩, d2⟩, c1, d1⟩, b0, c0, d0⟩) c2) b1) a0) t
noncomputable def B229 : SetT R4 := fun v t K => N4.rec (motive := fun _ => An) (fun a0 b0 c0 d0 => N4.rec (motive := fun _ => An) (fun a1 b1 c1 d1 => N4.rec (motive := fun _ => An) (fun a2 b2 c2 d2 => N4.rec (motive := fun _ => An) (fun a3 b3 c3 d3 => K ⟨a0, ⟨a1, ⟨a2, b2, ⟨a3, b3, c3, (some v)⟩, d2⟩, c1, d1⟩, c0, d0⟩) c2) b1) b0) t
noncomputable def B230 : SetT R4 := fun v t K => N4.rec (motive := fun _ => An) (fun a0 b0 c0 d0 => N4.rec (motive := fun _ => An) (fun a1 b1 c1 d1 => N4.rec (motive := fun _ => An) (fun a2 b2 c2 d2 => N4.rec (motive := fun _ => An) (fun a3 b3 c3 d3 => K ⟨a0, b0, ⟨a1, ⟨a2, b2, ⟨a3, b3, c3, (some v)⟩, d2⟩, c1, d1⟩, d0⟩) c2) b1) c0) t
noncomputable def B231 : SetT R4 := fun v t K => N4.rec (motive := fun _ => An) (fun a0 b0 c0 d0 => N4.rec (motive := fun _ => An) (fun a1 b1 c1 d1 => N4.rec (motive := fun _ => An) (fun a2 b2 c2 d2 => N4.rec (motive := fun _ => An) (fun a3 b3 c3 d3 => K ⟨a0, b0, c0, ⟨a1, ⟨a2, b2, ⟨a3, b3, c3, (some v)⟩, d2⟩, c1, d1⟩⟩) c2) b1) d0) t
noncomputable def B232 : SetT R4 := fun v t K => N4.rec (motive := fun _ => An) (fun a0 b0 c0 d0 => N4.rec (motive := fun _ => An) (fun a1 b1 c1 d1 => N4.rec (motive := fun _ => An) (fun a2 b2 c2 d2 => N4.rec (motive := fun _ => An) (fun a3 b3 c3 d3 => K ⟨⟨a1, b1, ⟨a2, b2, ⟨a3, b3, c3, (some v)⟩, d2⟩, d1⟩, b0, c0, d0⟩) c2) c1) a0) t
noncomputable def B233 : SetT R4 := fun v t K => N4.rec (motive := fun _ => An) (fun a0 b0 c0 d0 => N4.rec (motive := fun _ => An) (fun a1 b1 c1 d1 => N4.rec (motive := fun _ => An) (fun a2 b2 c2 d2 => N4.rec (motive := fun _ => An) (fun a3 b3 c3 d3 => K ⟨a0, ⟨a1, b1, ⟨a2, b2, ⟨a3, b3, c3, (some v)⟩, d2⟩, d1⟩, c0, d0⟩) c2) c1) b0) t
noncomputable def B234 : SetT R4 := fun v t K => N4.rec (motive := fun _ => An) (fun a0 b0 c0 d0 => N4.rec (motive := fun _ => An) (fun a1 b1 c1 d1 => N4.rec (motive := fun _ => An) (fun a2 b2 c2 d2 => N4.rec (motive := fun _ => An) (fun a3 b3 c3 d3 => K ⟨a0, b0, ⟨a1, b1, ⟨a2, b2, ⟨a3, b3, c3, (some v)⟩, d2⟩, d1⟩, d0⟩) c2) c1) c0) t
noncomputable def B235 : SetT R4 := fun v t K => N4.rec (motive := fun _ => An) (fun a0 b0 c0 d0 => N4.rec (motive := fun _ => An) (fun a1 b1 c1 d1 => N4.rec (motive := fun _ => An) (fun a2 b2 c2 d2 => N4.rec (motive := fun _ => An) (fun a3 b3 c3 d3 => K ⟨a0, b0, c0, ⟨a1, b1, ⟨a2, b2, ⟨a3, b3, c3, (some v)⟩, d2⟩, d1⟩⟩) c2) c1) d0) t
noncomputable def B236 : SetT R4 := fun v t K => N4.rec (motive := fun _ => An) (fun a0 b0 c0 d0 => N4.rec (motive := fun _ => An) (fun a1 b1 c1 d1 => N4.rec (motive := fun _ => An) (fun a2 b2 c2 d2 => N4.rec (motive := fun _ => An) (fun a3 b3 c3 d3 => K ⟨⟨a1, b1, c1, ⟨a2, b2, ⟨a3, b3, c3, (some v)⟩, d2⟩⟩, b0, c0, d0⟩) c2) d1) a0) t
noncomputable def B237 : SetT R4 := fun v t K => N4.rec (motive := fun _ => An) (fun a0 b0 c0 d0 => N4.rec (motive := fun _ => An) (fun a1 b1 c1 d1 => N4.rec (motive := fun _ => An) (fun a2 b2 c2 d2 => N4.rec (motive := fun _ => An) (fun a3 b3 c3 d3 => K ⟨a0, ⟨a1, b1, c1, ⟨a2, b2, ⟨a3, b3, c3, (some v)⟩, d2⟩⟩, c0, d0⟩) c2) d1) b0) t
noncomputable def B238 : SetT R4 := fun v t K => N4.rec (motive := fun _ => An) (fun a0 b0 c0 d0 => N4.rec (motive := fun _ => An) (fun a1 b1 c1 d1 => N4.rec (motive := fun _ => An) (fun a2 b2 c2 d2 => N4.rec (motive := fun _ => An) (fun a3 b3 c3 d3 => K ⟨a0, b0, ⟨a1, b1, c1, ⟨a2, b2, ⟨a3, b3, c3, (some v)⟩, d2⟩⟩, d0⟩) c2) d1) c0) t
noncomputable def B239 : SetT R4 := fun v t K => N4.rec (motive := fun _ => An) (fun a0 b0 c0 d0 => N4.rec (motive := fun _ => An) (fun a1 b1 c1 d1 => N4.rec (motive := fun _ => An) (fun a2 b2 c2 d2 => N4.rec (motive := fun _ => An) (fun a3 b3 c3 d3 => K ⟨a0, b0, c0, ⟨a1, b1, c1, ⟨a2, b2, ⟨a3, b3, c3, (some v)⟩, d2⟩⟩⟩) c2) d1) d0) t
noncomputable def B240 : SetT R4 := fun v t K => N4.rec (motive := fun _ => An) (fun a0 b0 c0 d0 => N4.rec (motive := fun _ => An) (fun a1 b1 c1 d1 => N4.rec (motive := fun _ => An) (fun a2 b2 c2 d2 => N4.rec (motive := fun _ => An) (fun a3 b3 c3 d3 => K ⟨⟨⟨a2, b2, c2, ⟨a3, b3, c3, (some v)⟩⟩, b1, c1, d1⟩, b0, c0, d0⟩) d2) a1) a0) t
noncomputable def B241 : SetT R4 := fun v t K => N4.rec (motive := fun _ => An) (fun a0 b0 c0 d0 => N4.rec (motive := fun _ => An) (fun a1 b1 c1 d1 => N4.rec (motive := fun _ => An) (fun a2 b2 c2 d2 => N4.rec (motive := fun _ => An) (fun a3 b3 c3 d3 => K ⟨a0, ⟨⟨a2, b2, c2, ⟨a3, b3, c3, (some v)⟩⟩, b1, c1, d1⟩, c0, d0⟩) d2) a1) b0) t
noncomputable def B242 : SetT R4 := fun v t K => N4.rec (motive := fun _ => An) (fun a0 b0 c0 d0 => N4.rec (motive := fun _ => An) (fun a1 b1 c1 d1 => N4.rec (motive := fun _ => An) (fun a2 b2 c2 d2 => N4.rec (motive := fun _ => An) (fun a3 b3 c3 d3 => K ⟨a0, b0, ⟨⟨a2, b2, c2, ⟨a3, b3, c3, (some v)⟩⟩, b1, c1, d1⟩, d0⟩) d2) a1) c0) t
noncomputable def B243 : SetT R4 := fun v t K => N4.rec (motive := fun _ => An) (fun a0 b0 c0 d0 => N4.rec (motive := fun _ => An) (fun a1 b1 c1 d1 => N4.rec (motive := fun _ => An) (fun a2 b2 c2 d2 => N4.rec (motive := fun _ => An) (fun a3 b3 c3 d3 => K ⟨a0, b0, c0, ⟨⟨a2, b2, c2, ⟨a3, b3, c3, (some v)⟩⟩, b1, c1, d1⟩⟩) d2) a1) d0) t
noncomputable def B244 : SetT R4 := fun v t K => N4.rec (motive := fun _ => An) (fun a0 b0 c0 d0 => N4.rec (motive := fun _ => An) (fun a1 b1 c1 d1 => N4.rec (motive := fun _ => An) (fun a2 b2 c2 d2 => N4.rec (motive := fun _ => An) (fun a3 b3 c3 d3 => K ⟨⟨a1, ⟨a2, b2, c2, ⟨a3, b3, c3, (some v)⟩⟩, c1, d1⟩, b0, c0, d0⟩) d2) b1) a0) t
noncomputable def B245 : SetT R4 := fun v t K => N4.rec (motive := fun _ => An) (fun a0 b0 c0 d0 => N4.rec (motive := fun _ => An) (fun a1 b1 c1 d1 => N4.rec (motive := fun _ => An) (fun a2 b2 c2 d2 => N4.rec (motive := fun _ => An) (fun a3 b3 c3 d3 => K ⟨a0, ⟨a1, ⟨a2, b2, c2, ⟨a3, b3, c3, (some v)⟩⟩, c1, d1⟩, c0, d0⟩) d2) b1) b0) t
noncomputable def B246 : SetT R4 := fun v t K => N4.rec (motive := fun _ => An) (fun a0 b0 c0 d0 => N4.rec (motive := fun _ => An) (fun a1 b1 c1 d1 => N4.rec (motive := fun _ => An) (fun a2 b2 c2 d2 => N4.rec (motive := fun _ => An) (fun a3 b3 c3 d3 => K ⟨a0, b0, ⟨a1, ⟨a2, b2, c2, ⟨a3, b3, c3, (some v)⟩⟩, c1, d1⟩, d0⟩) d2) b1) c0) t
noncomputable def B247 : SetT R4 := fun v t K => N4.rec (motive := fun _ => An) (fun a0 b0 c0 d0 => N4.rec (motive := fun _ => An) (fun a1 b1 c1 d1 => N4.rec (motive := fun _ => An) (fun a2 b2 c2 d2 => N4.rec (motive := fun _ => An) (fun a3 b3 c3 d3 => K ⟨a0, b0, c0, ⟨a1, ⟨a2, b2, c2, ⟨a3, b3, c3, (some v)⟩⟩, c1, d1⟩⟩) d2) b1) d0) t
noncomputable def B248 : SetT R4 := fun v t K => N4.rec (motive := fun _ => An) (fun a0 b0 c0 d0 => N4.rec (motive := fun _ => An) (fun a1 b1 c1 d1 => N4.rec (motive := fun _ => An) (fun a2 b2 c2 d2 => N4.rec (motive := fun _ => An) (fun a3 b3 c3 d3 => K ⟨⟨a1, b1, ⟨a2, b2, c2, ⟨a3, b3, c3, (some v)⟩⟩, d1⟩, b0, c0, d0⟩) d2) c1) a0) t
noncomputable def B249 : SetT R4 := fun v t K => N4.rec (motive := fun _ => An) (fun a0 b0 c0 d0 => N4.rec (motive := fun _ => An) (fun a1 b1 c1 d1 => N4.rec (motive := fun _ => An) (fun a2 b2 c2 d2 => N4.rec (motive := fun _ => An) (fun a3 b3 c3 d3 => K ⟨a0, ⟨a1, b1, ⟨a2, b2, c2, ⟨a3, b3, c3, (some v)⟩⟩, d1⟩, c0, d0⟩) d2) c1) b0) t
noncomputable def B250 : SetT R4 := fun v t K => N4.rec (motive := fun _ => An) (fun a0 b0 c0 d0 => N4.rec (motive := fun _ => An) (fun a1 b1 c1 d1 => N4.rec (motive := fun _ => An) (fun a2 b2 c2 d2 => N4.rec (motive := fun _ => An) (fun a3 b3 c3 d3 => K ⟨a0, b0, ⟨a1, b1, ⟨a2, b2, c2, ⟨a3, b3, c3, (some v)⟩⟩, d1⟩, d0⟩) d2) c1) c0) t
noncomputable def B251 : SetT R4 := fun v t K => N4.rec (motive := fun _ => An) (fun a0 b0 c0 d0 => N4.rec (motive := fun _ => An) (fun a1 b1 c1 d1 => N4.rec (motive := fun _ => An) (fun a2 b2 c2 d2 => N4.rec (motive := fun _ => An) (fun a3 b3 c3 d3 => K ⟨a0, b0, c0, ⟨a1, b1, ⟨a2, b2, c2, ⟨a3, b3, c3, (some v)⟩⟩, d1⟩⟩) d2) c1) d0) t
noncomputable def B252 : SetT R4 := fun v t K => N4.rec (motive := fun _ => An) (fun a0 b0 c0 d0 => N4.rec (motive := fun _ => An) (fun a1 b1 c1 d1 => N4.rec (motive := fun _ => An) (fun a2 b2 c2 d2 => N4.rec (motive := fun _ => An) (fun a3 b3 c3 d3 => K ⟨⟨a1, b1, c1, ⟨a2, b2, c2, ⟨a3, b3, c3, (some v)⟩⟩⟩, b0, c0, d0⟩) d2) d1) a0) t
noncomputable def B253 : SetT R4 := fun v t K => N4.rec (motive := fun _ => An) (fun a0 b0 c0 d0 => N4.rec (motive := fun _ => An) (fun a1 b1 c1 d1 => N4.rec (motive := fun _ => An) (fun a2 b2 c2 d2 => N4.rec (motive := fun _ => An) (fun a3 b3 c3 d3 => K ⟨a0, ⟨a1, b1, c1, ⟨a2, b2, c2, ⟨a3, b3, c3, (some v)⟩⟩⟩, c0, d0⟩) d2) d1) b0) t
noncomputable def B254 : SetT R4 := fun v t K => N4.rec (motive := fun _ => An) (fun a0 b0 c0 d0 => N4.rec (motive := fun _ => An) (fun a1 b1 c1 d1 => N4.rec (motive := fun _ => An) (fun a2 b2 c2 d2 => N4.rec (motive := fun _ => An) (fun a3 b3 c3 d3 => K ⟨a0, b0, ⟨a1, b1, c1, ⟨a2, b2, c2, ⟨a3, b3, c3, (some v)⟩⟩⟩, d0⟩) d2) d1) c0) t
noncomputable def B255 : SetT R4 := fun v t K => N4.rec (motive := fun _ => An) (fun a0 b0 c0 d0 => N4.rec (motive := fun _ => An) (fun a1 b1 c1 d1 => N4.rec (motive := fun _ => An) (fun a2 b2 c2 d2 => N4.rec (motive := fun _ => An) (fun a3 b3 c3 d3 => K ⟨a0, b0, c0, ⟨a1, b1, c1, ⟨a2, b2, c2, ⟨a3, b3, c3, (some v)⟩⟩⟩⟩) d2) d1) d0) t
def gets3 : List (GetT R3) := [a0, a1, a2, a3, a4, a5, a6, a7, a8, a9, a10, a11, a12, a13, a14, a15, a16, a17, a18, a19, a20, a21, a22, a23, a24, a25, a26, a27, a28, a29, a30, a31, a32, a33, a34, a35, a36, a37, a38, a39, a40, a41, a42, a43, a44, a45, a46, a47, a48, a49, a50, a51, a52, a53, a54, a55, a56, a57, a58, a59, a60, a61, a62, a63]
noncomputable def sets3 : List (SetT R3) := [A0, A1, A2, A3, A4, A5, A6, A7, A8, A9, A10, A11, A12, A13, A14, A15, A16, A17, A18, A19, A20, A21, A22, A23, A24, A25, A26, A27, A28, A29, A30, A31, A32, A33, A34, A35, A36, A37, A38, A39, A40, A41, A42, A43, A44, A45, A46, A47, A48, A49, A50, A51, A52, A53, A54, A55, A56, A57, A58, A59, A60, A61, A62, A63]
def gets4 : List (GetT R4) := [b0, b1, b2, b3, b4, b5, b6, b7, b8, b9, b10, b11, b12, b13, b14, b15, b16, b17, b18, b19, b20, b21, b22, b23, b24, b25, b26, b27, b28, b29, b30, b31, b32, b33, b34, b35, b36, b37, b38, b39, b40, b41, b42, b43, b44, b45, b46, b47, b48, b49, b50, b51, b52, b53, b54, b55, b56, b57, b58, b59, b60, b61, b62, b63, b64, b65, b66, b67, b68, b69, b70, b71, b72, b73, b74, b75, b76, b77, b78, b79, b80, b81, b82, b83, b84, b85, b86, b87, b88, b89, b90, b91, b92, b93, b94, b95, b96, b97, b98, b99, b100, b101, b102, b103, b104, b105, b106, b107, b108, b109, b110, b111, b112, b113, b114, b115, b116, b117, b118, b119, b120, b121, b122, b123, b124, b125, b126, b127, b128, b129, b130, b131, b132, b133, b134, b135, b136, b137, b138, b139, b140, b141, b142, b143, b144, b145, b146, b147, b148, b149, b150, b151, b152, b153, b154, b155, b156, b157, b158, b159, b160, b161, b162, b163, b164, b165, b166, b167, b168, b169, b170, b171, b172, b173, b174, b175, b176, b177, b178, b179, b180, b181, b182, b183, b184, b185, b186, b187, b188, b189, b190, b191, b192, b193, b194, b195, b196, b197, b198, b199, b200, b201, b202, b203, b204, b205, b206, b207, b208, b209, b210, b211, b212, b213, b214, b215, b216, b217, b218, b219, b220, b221, b222, b223, b224, b225, b226, b227, b228, b229, b230, b231, b232, b233, b234, b235, b236, b237, b238, b239, b240, b241, b242, b243, b244, b245, b246, b247, b248, b249, b250, b251, b252, b253, b254, b255]
noncomputable def sets4 : List (SetT R4) := [B0, B1, B2, B3, B4, B5, B6, B7, B8, B9, B10, B11, B12, B13, B14, B15, B16, B17, B18, B19, B20, B21, B22, B23, B24, B25, B26, B27, B28, B29, B30, B31, B32, B33, B34, B35, B36, B37, B38, B39, B40, B41, B42, B43, B44, B45, B46, B47, B48, B49, B50, B51, B52, B53, B54, B55, B56, B57, B58, B59, B60, B61, B62, B63, B64, B65, B66, B67, B68, B69, B70, B71, B72, B73, B74, B75, B76, B77, B78, B79, B80, B81, B82, B83, B84, B85, B86, B87, B88, B89, B90, B91, B92, B93, B94, B95, B96, B97, B98, B99, B100, B101, B102, B103, B104, B105, B106, B107, B108, B109, B110, B111, B112, B113, B114, B115, B116, B117, B118, B119, B120, B121, B122, B123, B124, B125, B126, B127, B128, B129, B130, B131, B132, B133, B134, B135, B136, B137, B138, B139, B140, B141, B142, B143, B144, B145, B146, B147, B148, B149, B150, B151, B152, B153, B154, B155, B156, B157, B158, B159, B160, B161, B162, B163, B164, B165, B166, B167, B168, B169, B170, B171, B172, B173, B174, B175, B176, B177, B178, B179, B180, B181, B182, B183, B184, B185, B186, B187, B188, B189, B190, B191, B192, B193, B194, B195, B196, B197, B198, B199, B200, B201, B202, B203, B204, B205, B206, B207, B208, B209, B210, B211, B212, B213, B214, B215, B216, B217, B218, B219, B220, B221, B222, B223, B224, B225, B226, B227, B228, B229, B230, B231, B232, B233, B234, B235, B236, B237, B238, B239, B240, B241, B242, B243, B244, B245, B246, B247, B248, B249, B250, B251, B252, B253, B254, B255]
end Go.Ab.F
end
