import Derived.Test.YtibcljekjjjnoaaGreatDoorXb
/- A part of the proof of NatNews: Xc. -/
set_option linter.all false
namespace Go.Proofs.YtibcljekjjjnoaaGreatDoor
open Go Go.Ab Go.ChangeShapes Go.WideShapes Go.ChangeAt Go.WideMaps Go.WideElems Go.RowKit Go.Joins Go.Deep
abbrev cfg0 : Array Value := #[.agg #[.int .i64 0, .int .u32 0, .int .i64 0, .int .i64 0, .int .i64 0, .int .i64 0]]
theorem door_met (os : Os) (args : Array Value) : laidMetH Tryz.prog laid1 ((World.doorLaid Tryz.prog 14 os).forCall (fun _ _ => 0) ⟨#[], args, []⟩).memory :=
  laidMetH_of_parts3 (fuel := 8) (laidMet_of_run' 8 (by kernel_rfl) (by kernel_rfl)) (by kernel_rfl) (by kernel_rfl)
theorem met_shaped (os : Os) : ((World.doorLaid Tryz.prog 14 os).forCall (fun _ _ => 0) ⟨#[], cfg0, []⟩).Shaped Tryz.checked.prog := World.shaped_of_RefB (by kernel_rfl) (by kernel_rfl)
theorem met_ok (os : Os) : Input.okWideB Tryz.checked.prog ((World.doorLaid Tryz.prog 14 os).forCall (fun _ _ => 0) ⟨#[], cfg0, []⟩) 4 ⟨#[], cfg0, []⟩ = true := by kernel_rfl
theorem met_pre (os : Os) (H : Type) (enc : TypeId × Value → H) : Rows.natNewsSpec.preB enc Tryz.checked.prog Tryz.f4 [] false ((World.doorLaid Tryz.prog 14 os).forCall (fun _ _ => 0) ⟨#[], cfg0, []⟩).memory cfg0 8 = true := by kernel_rfl
theorem met_sized (os : Os) (H : Type) (enc : TypeId × Value → H) : Rows.natNewsSpec.sizedB enc Tryz.checked.prog Tryz.f4 false ((World.doorLaid Tryz.prog 14 os).forCall (fun _ _ => 0) ⟨#[], cfg0, []⟩).memory cfg0 8 = true := by kernel_rfl
abbrev cfgFields : Array Field := #[{ name := "Workers", type := 3, offset := 0, embedded := false, tag := "", pkgPath := "", byteOffset := 0 },
        { name := "Outer", type := 31, offset := 1, embedded := false, tag := "", pkgPath := "", byteOffset := 8 },
        { name := "Lo", type := 3, offset := 2, embedded := false, tag := "", pkgPath := "", byteOffset := 16 },
        { name := "Hi", type := 3, offset := 3, embedded := false, tag := "", pkgPath := "", byteOffset := 24 },
        { name := "Buckets", type := 3, offset := 4, embedded := false, tag := "", pkgPath := "", byteOffset := 32 },
        { name := "Ring", type := 3, offset := 5, embedded := false, tag := "", pkgPath := "", byteOffset := 40 }]
theorem one36 : oneCellFields Tryz.prog cfgFields = true := by kernel_rfl
theorem cells36 : Tryz.prog.cellsOf 36 = 6 := by kernel_rfl
theorem array6 {α : Type} {cs : Array α} (h : cs.size = 6) : ∃ c0 c1 c2 c3 c4 c5, cs = #[c0, c1, c2, c3, c4, c5] := by
  obtain ⟨l⟩ := cs
  match l, h with
  | [c0, c1, c2, c3, c4, c5], _ => exact ⟨c0, c1, c2, c3, c4, c5, rfl⟩
theorem list6 {α : Type} {l : List α} (h : l.length = 6) : ∃ c0 c1 c2 c3 c4 c5, l = [c0, c1, c2, c3, c4, c5] := by
  match l, h with
  | [c0, c1, c2, c3, c4, c5], _ => exact ⟨c0, c1, c2, c3, c4, c5, rfl⟩
section
variable {H : Type} {enc : TypeId × Value → H} {w : World} {base : Nat} {spare : Nat → Bool} {held : Bool}
set_option maxRecDepth 100000 in
theorem open_cfg {r : Reach} {b0 : Nat} {v : Value} {d : DataW H} {p : List MemPlace} (hv : Value.okWide Tryz.prog w r b0 36 v) (h : DataW.Trod enc Tryz.prog w base spare held 36 v d p) :
    ∃ a0 a1 a2 a3 a4 a5 : Int, v = .agg #[.int .i64 a0, .int .u32 a1, .int .i64 a2, .int .i64 a3, .int .i64 a4, .int .i64 a5] ∧ d = .agg [.lit (.int .i64 a0), .lit (.int .u32 a1), .lit (.int .i64 a2), .lit (.int .i64 a3), .lit (.int .i64 a4), .lit (.int .i64 a5)] ∧ p = [] ∧
      (Lit.int .i64 a0).wf = true ∧ (Lit.int .u32 a1).wf = true ∧ (Lit.int .i64 a2).wf = true ∧ (Lit.int .i64 a3).wf = true ∧ (Lit.int .i64 a4).wf = true ∧ (Lit.int .i64 a5).wf = true := by
  obtain ⟨cs, rfl, hsz⟩ := okWide_struct Tryz.underlying36 hv
  rw [cells36] at hsz
  obtain ⟨c0, c1, c2, c3, c4, c5, rfl⟩ := array6 hsz
  obtain ⟨fuel, hf⟩ := h
  obtain ⟨xs, n, _, hx, _, hlen, hg⟩ := DataW.trod_struct Tryz.underlying36 hf
  obtain ⟨y0, y1, y2, y3, y4, y5, rfl⟩ := list6 (hlen.trans rfl)
  simp only [Prod.mk.injEq] at hx
  obtain ⟨hx1, hx2⟩ := hx
  have k3 : Tryz.prog.cellsOf 3 = 1 := (hone_of one36 0 _ rfl).2
  have k31 : Tryz.prog.cellsOf 31 = 1 := (hone_of one36 1 _ rfl).2
  obtain ⟨a0, e0, f0, w0⟩ := DataW.trod_int (x := y0) Tryz.underlying3 (by simpa [Value.cells, k3] using hg 0 _ rfl)
  obtain ⟨a1, e1, f1, w1⟩ := DataW.trod_int (x := y1) Tryz.underlying31 (by simpa [Value.cells, k31] using hg 1 _ rfl)
  obtain ⟨a2, e2, f2, w2⟩ := DataW.trod_int (x := y2) Tryz.underlying3 (by simpa [Value.cells, k3] using hg 2 _ rfl)
  obtain ⟨a3, e3, f3, w3⟩ := DataW.trod_int (x := y3) Tryz.underlying3 (by simpa [Value.cells, k3] using hg 3 _ rfl)
  obtain ⟨a4, e4, f4, w4⟩ := DataW.trod_int (x := y4) Tryz.underlying3 (by simpa [Value.cells, k3] using hg 4 _ rfl)
  obtain ⟨a5, e5, f5, w5⟩ := DataW.trod_int (x := y5) Tryz.underlying3 (by simpa [Value.cells, k3] using hg 5 _ rfl)
  subst f0 f1 f2 f3 f4 f5
  cases e0; cases e1; cases e2; cases e3; cases e4; cases e5
  exact ⟨a0, a1, a2, a3, a4, a5, rfl, by simpa using hx1, by simpa using hx2, w0, w1, w2, w3, w4, w5⟩
set_option maxRecDepth 100000 in
theorem shut_cfg {a0 a1 a2 a3 a4 a5 : Int} (w0 : (Lit.int .i64 a0).wf = true) (w1 : (Lit.int .u32 a1).wf = true) (w2 : (Lit.int .i64 a2).wf = true) (w3 : (Lit.int .i64 a3).wf = true) (w4 : (Lit.int .i64 a4).wf = true) (w5 : (Lit.int .i64 a5).wf = true) :
    DataW.Trod enc Tryz.prog w base spare held 36 (.agg #[.int .i64 a0, .int .u32 a1, .int .i64 a2, .int .i64 a3, .int .i64 a4, .int .i64 a5]) (.agg [.lit (.int .i64 a0), .lit (.int .u32 a1), .lit (.int .i64 a2), .lit (.int .i64 a3), .lit (.int .i64 a4), .lit (.int .i64 a5)]) [] := by
  have i0 := fun (a : Int) (wa : (Lit.int .i64 a).wf = true) => trod_int_mk (enc := enc) (P := Tryz.prog) (w := w) (base := base) (spare := spare) (held := held) 0 Tryz.underlying3 wa
  have i1 := trod_int_mk (enc := enc) (P := Tryz.prog) (w := w) (base := base) (spare := spare) (held := held) 0 Tryz.underlying31 w1
  have k3 : Tryz.prog.cellsOf 3 = 1 := (hone_of one36 0 _ rfl).2
  have k31 : Tryz.prog.cellsOf 31 = 1 := (hone_of one36 1 _ rfl).2
  have ts := trod_struct_mk (enc := enc) (P := Tryz.prog) (w := w) (base := base) (spare := spare) (held := held) (n := 1) (cs := [.int .i64 a0, .int .u32 a1, .int .i64 a2, .int .i64 a3, .int .i64 a4, .int .i64 a5])
    (xs := [(.lit (.int .i64 a0), []), (.lit (.int .u32 a1), []), (.lit (.int .i64 a2), []), (.lit (.int .i64 a3), []), (.lit (.int .i64 a4), []), (.lit (.int .i64 a5), [])]) Tryz.underlying36 (by rw [cells36]; rfl)
    (by simp [k3, k31, i0 a0 w0, i1, i0 a2 w2, i0 a3 w3, i0 a4 w4, i0 a5 w5])
  exact ⟨_, by simpa [Value.cells] using ts⟩
end
end Go.Proofs.YtibcljekjjjnoaaGreatDoor

namespace Go.Proofs.YtibcljekjjjnoaaGreatDoor
open Go Go.Ab Go.ChangeShapes Go.WideShapes Go.ChangeAt Go.WideMaps Go.WideElems Go.RowKit
set_option maxRecDepth 100000 in
theorem lifted (os : Os) (started : os.Started) (H : Type) (enc : TypeId × Value → H) :
    ReturnsInHanded {} Tryz.checked os 4 .any (fun w args => (Rows.natNewsSpec.pre enc Tryz.prog Tryz.f4 [] false w args ∧ laidMetH Tryz.prog laid1 w) ∧ sizedMet enc Tryz.prog Tryz.f4 (OpenSpec.ofChange Rows.natNewsSpec) false w args)
      (Rows.natNewsSpec.post enc Tryz.prog Tryz.f4 false true false false) := by
  refine returnsInHanded_of_change_and (C := Tryz.checked) (X := fun w _ => laidMetH Tryz.prog laid1 w) (fun _ _ _ hh h => h.of_heap hh) own started (by kernel_rfl) Tryz.func4
    (ChangeSpec.witness_shaped (enc := enc) (C := Tryz.checked) (os := os) (X := fun w _ => laidMetH Tryz.prog laid1 w) false (World.doorLaid Tryz.prog 14 os) cfg0 8 rfl (met_shaped os) (met_ok os) (met_pre os H enc) (met_sized os H enc) (door_met os _)) ?_
  intro W base args ds gs before hval0 hW _ _ hL _
  have hval : ∀ (j : Nat) t v, Tryz.f4.params[j]? = some t → args[j]? = some v → Value.okWide Tryz.prog W .any base t v := hval0
  have hW' := hW
  obtain ⟨p, q, hA0, hV, rfl, hfz, hnd⟩ := hW
  have hA : DataW.TrodAll enc Tryz.prog W 0 (fun _ => true) true Tryz.f4.params.toList args.toList ds p := hA0
  rw [Tryz.params4] at hA hval
  obtain ⟨v0, vs0, d0, ds0, p0, q0, hargs, rfl, rfl, h0, r0⟩ := trodAll_cons hA
  obtain ⟨rfl, rfl, rfl⟩ := trodAll_nil r0
  obtain rfl : args = #[v0] := by cases args; simp_all
  obtain ⟨rfl, rfl⟩ := trodVars_none hV
  obtain ⟨a0, a1, a2, a3, a4, a5, rfl, rfl, rfl, w0, w1, w2, w3, w4, w5⟩ := open_cfg (hval 0 36 v0 rfl rfl) h0
  clear hA0 hval0
  simp only [List.append_nil] at hW'
  refine (walk4 a0 a1 a2 a3 a4 a5 (tab_of_laid hL)).mono fun e W' ⟨he, hk⟩ => ?_
  subst he
  refine ⟨_, rfl, _, _, [], [], [], [], hW', ?_, ?_, ?_, World.keptBut_mono (fun _ h => h.elim) hk, fun h => by cases h⟩
  · exact trodAll_cons_mk (shut_bool Tryz.underlying4 _) trodAll_mk0
  · exact trodAll_cons_mk (shut_cfg w0 w1 w2 w3 w4 w5) trodAll_mk0
  · exact rfl
end Go.Proofs.YtibcljekjjjnoaaGreatDoor
