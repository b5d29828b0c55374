/- Towns: what they are, and how they lie in memory. climb.has, climb.ids. -/
import Derived.Test.YtahkjagjcogeiaaDoorContainsInt
import Derived.Test.YtahkjagjcogeiaaDoorClIn
import Derived.Test.YtahkjagjcogeiaaDoorPl
namespace Go.Proofs.YtahkjagjcogeiaaDoor
open Go.RowKit
set_option linter.unusedVariables false

def Link.vals (x : Link) : List Value := [.int .i64 x.id, .int .i64 x.fr, .int .i64 x.to, .int .i64 x.steps, .int .i64 x.paces]
/-- A slice of links. -/
def LinksAt (w : World) (B : Nat) (A : Option Addr) (n : Nat) (l : List Link) : Prop := Reads w B 5 A n (l.flatMap Link.vals)

theorem flat_len (l : List Link) : (l.flatMap Link.vals).length = l.length * 5 := by
  induction l with
  | nil => rfl
  | cons x l ih => rw [List.flatMap_cons, List.length_append, ih, List.length_cons]; simp [Link.vals]; omega

theorem flat_at {l : List Link} {k j : Nat} {x : Link} (h : l[k]? = some x) (hj : j < 5) : (l.flatMap Link.vals)[k * 5 + j]? = x.vals[j]? := by
  induction l generalizing k with
  | nil => simp at h
  | cons y l ih =>
    rw [List.flatMap_cons]
    cases k with
    | zero =>
      simp at h; subst h
      rw [List.getElem?_append_left (by simp [Link.vals]; omega)]; simp
    | succ k =>
      rw [List.getElem?_append_right (by simp [Link.vals]; omega)]
      have : (k + 1) * 5 + j - y.vals.length = k * 5 + j := by simp [Link.vals]; omega
      rw [this]
      exact ih (by simpa using h)

section
variable {w w' : World} {B B' n : Nat} {A : Option Addr} {l : List Link}
theorem LinksAt.len (h : LinksAt w B A n l) : l.length = n := by have := h.1; rw [flat_len] at this; omega
theorem LinksAt.below (h : LinksAt w B A n l) (hb : Below B w w') : LinksAt w' B A n l := Reads.below h hb
theorem LinksAt.more (h : LinksAt w B A n l) (hB : B ≤ B') : LinksAt w B' A n l := Reads.more h hB
theorem LinksAt.cell (h : LinksAt w B A n l) {k : Nat} (hk : k < n) : ∃ b off x, A = some ⟨b, off, none⟩ ∧ b < B ∧ l[k]? = some x ∧
    w.cell? ⟨b, off + k * 5, none⟩ = some (.int .i64 x.id) ∧ w.cell? ⟨b, off + k * 5 + 1, none⟩ = some (.int .i64 x.fr) ∧ w.cell? ⟨b, off + k * 5 + 2, none⟩ = some (.int .i64 x.to)
     ∧ w.cell? ⟨b, off + k * 5 + 3, none⟩ = some (.int .i64 x.steps) ∧ w.cell? ⟨b, off + k * 5 + 4, none⟩ = some (.int .i64 x.paces) := by
  have hl := h.len
  obtain ⟨b, off, e, hb, hc⟩ := Reads.plain h (by rw [flat_len]; omega)
  have hx : l[k]? = some l[k] := List.getElem?_eq_getElem (by omega)
  refine ⟨b, off, _, e, hb, hx, ?_, ?_, ?_, ?_, ?_⟩
  · have := hc (k * 5) (.int .i64 l[k].id) (by have := flat_at (j := 0) hx (by omega); simpa [Link.vals] using this); exact this
  · have := hc (k * 5 + 1) (.int .i64 l[k].fr) (by have := flat_at (j := 1) hx (by omega); simpa [Link.vals] using this); exact this
  · have := hc (k * 5 + 2) (.int .i64 l[k].to) (by have := flat_at (j := 2) hx (by omega); simpa [Link.vals] using this); exact this
  · have := hc (k * 5 + 3) (.int .i64 l[k].steps) (by have := flat_at (j := 3) hx (by omega); simpa [Link.vals] using this); exact this
  · have := hc (k * 5 + 4) (.int .i64 l[k].paces) (by have := flat_at (j := 4) hx (by omega); simpa [Link.vals] using this); exact this
end

/-- A town's value. -/
def townV (A : Option Addr) (n c : Nat) (A' : Option Addr) (m d : Nat) : Value := .agg #[.slice A n c, .slice A' m d]

structure TownAt (w : World) (B : Nat) (A : Option Addr) (n : Nat) (A' : Option Addr) (m : Nat) (t : Town) : Prop where
  places : IntsAt w B A n t.places
  links : LinksAt w B A' m t.links
section
variable {w w' : World} {B B' n m : Nat} {A A' : Option Addr} {t : Town}
theorem TownAt.below (h : TownAt w B A n A' m t) (hb : Below B w w') : TownAt w' B A n A' m t := ⟨h.places.below hb, h.links.below hb⟩
theorem TownAt.more (h : TownAt w B A n A' m t) (hB : B ≤ B') : TownAt w B' A n A' m t := ⟨h.places.more hB, h.links.more hB⟩
end

theorem has1_any (A : Option Addr) (n c : Nat) (A' : Option Addr) (m d : Nat) (t : Town) (x : Int) (g : Nat) (w : World) (hn : n ≤ maxLen)
    (ht : TownAt w w.heap.size A n A' m t) (h0 : w.cell? ⟨g, 0, none⟩ = some (.slice A n c)) :
    Calls Tryd.prog 136 (#[.int .i64 x] ++ #[.pointer (some ⟨g, 0, none⟩)]) w fun e w' => e = .returned (.bool (!memI t.places x)) ∧ Below w.heap.size w w' := by
  have H := Lib.hid (contains_int A n c t.places x w ht.places hn)
  go_enter Tryd.func136, Tryd.ntmps136
  go_wp2_with fail
  refine H.out.mono ?_
  rintro e w' ⟨rfl, hb⟩
  go_wp2_with fail
  go_ret
  exact ⟨rfl, hb⟩

theorem enters_has1 (args : Array Value) (W : World) : (callFunc 136 args).run Tryd.prog W = .ok (.enter 136 args) W := by
  simp [go_sem]

/-- Whether all are places. -/
def hasB (t : Town) (l : List Int) : Bool := !l.any fun x => !memI t.places x

theorem has_any (A : Option Addr) (n c : Nat) (A' : Option Addr) (m d : Nat) (t : Town) (A2 : Option Addr) (k e : Nat) (l : List Int) (w : World) (hn : n ≤ maxLen) (hk : k ≤ maxLen)
    (ht : TownAt w w.heap.size A n A' m t) (hr : IntsAt w w.heap.size A2 k l) :
    Calls Tryd.prog 105 #[.agg #[.slice A n c, .slice A' m d], .slice A2 k e] w fun e w' => e = .returned (.bool (hasB t l)) ∧ Below w.heap.size w w' := by
  have hmf : ∀ (fn : Fn) (first cap : Array Value) (w : World), (Instr.makeFunc fn first cap).run Tryd.prog w = .ok (.func fn first cap) w := fun _ _ _ _ => rfl
  go_enter Tryd.func105, Tryd.ntmps105
  go_wp2_with fail
  have hb : Below w.heap.size w (w.alloc (.cells #[.slice A n c, .slice A' m d] 25)) := (Below.refl _ _).alloc (Nat.le_refl _) _
  refine (containsFunc_int 136 _ (fun x => !memI t.places x) A2 k e l _ ((hr.below hb).more (by simp)) hk enters_has1 ?_).mono ?_
  · intro x _ W hW
    have hW' : Below w.heap.size w W := hb.trans (hW.mono (by simp))
    exact has1_any A n c A' m d t x _ W hn ((ht.below hW').more hW'.size) ((hW.cell (p := ⟨w.heap.size, 0, none⟩) (by simp)).trans (by simp [go_sem]))
  · rintro e w' ⟨rfl, hb'⟩
    go_wp2_with fail
    go_ret
    exact ⟨rfl, hb.trans (hb'.mono (by simp))⟩
end Go.Proofs.YtahkjagjcogeiaaDoor
