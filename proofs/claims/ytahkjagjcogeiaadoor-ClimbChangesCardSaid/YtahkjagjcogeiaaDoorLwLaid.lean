/- The table of checks as the row lists it: its three cells. The door's own heap meets the condition. -/
import Derived.Test.YtahkjagjcogeiaaDoorRows
import Derived.Test.YtahkjagjcogeiaaDoorClAsk
import Derived.ProofKit
import Derived.LaidMore
import Derived.LaidHandle
import Derived.Stop.Joined
import Derived.ChangeSame
import Derived.OpenShut
namespace Go.Proofs.YtahkjagjcogeiaaDoor
open Go.ChangeShapes Go.WideShapes Go.ChangeAt Go.RowKit
set_option linter.unusedVariables false
set_option maxRecDepth 100000

def laidL : List (String × DataW Unit) := [("aguador/climb.checks", Rows.laid_aguador_climb_checks)]
theorem gChecks : Tryd.prog.globalNamed "aguador/climb.checks" = some 0 := by kernel_rfl
theorem tChecks : (Tryd.prog.globals[0]?).map (·.type) = some 149 := by kernel_rfl
theorem cellsCheck : Tryd.prog.cellsOf 148 = 1 := by kernel_rfl
theorem cellsFuncB : Tryd.prog.cellsOf 30 = 1 := by kernel_rfl
theorem checkUnd : ∃ f, Tryd.prog.underlying 148 = some (.struct #[f]) ∧ f.type = 30 ∧ f.offset = 0 := ⟨_, Tryd.underlying148, rfl, rfl⟩

/-- The door's own heap meets the condition. -/
theorem door_met (os : Os) (args : Array Value) : laidMetH Tryd.prog laidL ((World.doorLaid Tryd.prog 800 os).forCall (fun _ _ => 0) ⟨#[], args, []⟩).memory :=
  laidMetH_of_parts3 (fuel := 8) (laidMet_of_run' 8 (by kernel_rfl) (by kernel_rfl)) (by kernel_rfl) (by kernel_rfl)

theorem check_cell {W : World} {fuel : Nat} {cs : List Value} {b : UInt8} {r : List UInt8} {q : List MemPlace} {f0 : FuncId} (h : DataW.trod (funcToken Tryd.prog) Tryd.prog W 0 (fun _ => true) true fuel 148 cs = some (.agg [.held (b :: r)], q))
    (hone : ((List.range Tryd.prog.funcs.size).filter fun f => (Tryd.prog.funcs[f]?).any (·.name.toUTF8.data.toList == b :: r)) = [f0]) : cs = [.func (.func f0) #[] #[]] := by
  obtain ⟨f, hu, ht, ho⟩ := checkUnd
  obtain ⟨y0, n, hx, hl, h0⟩ := trod_struct1 hu h
  rw [cellsCheck] at hl
  match cs, hl with
  | [c], _ =>
    have h1 : DataW.trod (funcToken Tryd.prog) Tryd.prog W 0 (fun _ => true) true n 30 [c] = some y0 := by simpa [ht, ho, cellsFuncB] using h0
    simp only [Prod.mk.injEq, DataW.agg.injEq, List.cons.injEq, and_true] at hx
    obtain ⟨z, p⟩ := y0
    obtain ⟨e1, e2⟩ := hx
    simp only at e1
    subst e1
    rw [func_of_trod Tryd.underlying30 hone h1]

theorem of_laid {W : World} (h : laidMetH Tryd.prog laidL W) : Laid W := by
  obtain ⟨g, t, cs, fuel, p, hg, ht, hv, hd⟩ := h.funcs (List.mem_singleton.2 rfl)
  obtain rfl := Option.some.inj (gChecks.symm.trans hg)
  obtain rfl := Option.some.inj (tChecks.symm.trans ht)
  obtain ⟨xs, m, _, hx, hlen, hn, hel⟩ := DataW.trod_array Tryd.underlying149 hd
  rw [cellsCheck] at hel
  match xs, hn with
  | [x0, x1, x2], _ =>
    have h0 := hel 0 (by decide)
    have h1 := hel 1 (by decide)
    have h2 := hel 2 (by decide)
    simp only [Prod.mk.injEq] at hx
    have hx1 := hx.1
    simp only [DataW.funcsOut, DataW.funcsOutAll, List.map_cons, List.map_nil, DataW.agg.injEq, List.cons.injEq, and_true] at hx1
    obtain ⟨e0, e1, e2⟩ := hx1
    obtain ⟨x0, p0⟩ := x0
    obtain ⟨x1, p1⟩ := x1
    obtain ⟨x2, p2⟩ := x2
    simp only at e0 e1 e2
    subst e0 e1 e2
    have k0 := check_cell (f0 := 182) h0 (by kernel_rfl)
    have k1 := check_cell (f0 := 183) h1 (by kernel_rfl)
    have k2 := check_cell (f0 := 184) h2 (by kernel_rfl)
    have at_ : ∀ i, W.cell? ⟨0, i, none⟩ = cs[i]? := fun i => by simpa using World.var?_cell hg hv i
    obtain ⟨l⟩ := cs
    have c0 : W.cell? ⟨0, 0, none⟩ = some (.func (.func 182) #[] #[]) := by
      rw [at_]
      have := congrArg (·[0]?) k0
      simpa [List.getElem?_take, List.getElem?_drop] using this
    have c1 : W.cell? ⟨0, 1, none⟩ = some (.func (.func 183) #[] #[]) := by
      rw [at_]
      have := congrArg (·[0]?) k1
      simpa [List.getElem?_take, List.getElem?_drop] using this
    have c2 : W.cell? ⟨0, 2, none⟩ = some (.func (.func 184) #[] #[]) := by
      rw [at_]
      have := congrArg (·[0]?) k2
      simpa [List.getElem?_take, List.getElem?_drop] using this
    exact ⟨c0, c1, c2, World.block_lt_of_cell? W _ c0⟩

end Go.Proofs.YtahkjagjcogeiaaDoor
