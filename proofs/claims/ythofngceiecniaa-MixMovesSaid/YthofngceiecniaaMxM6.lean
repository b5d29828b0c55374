/- Part 6 of the texts of this claim, joined. -/
import Derived.WideKeyPair
import Derived.Sort.CutIn
import Derived.Lib.Meet
import Derived.IntWalk
import Derived.Test.YthofngceiecniaaRows
import Derived.RangeFuncNested
import Derived.RangeFuncBound
import Derived.Test.YthofngceiecniaaMxM5
set_option linter.unusedVariables false
/- An entry that has come is deleted while the map is ranged over. -/
namespace Go.Proofs.Ythofngceiecniaa
open Go.RowKit Go.MapKept
open Go.ChangeMaps (setBlock heap_setBlock_other heap_setBlock_same)
open Go.Maps (Keyed)
set_option linter.unusedSectionVars false

theorem filter_eraseIdx {γ : Type} {q : γ → Bool} : ∀ {l : List γ} {j : Nat} {y : γ}, l[j]? = some y → q y = false → (l.eraseIdx j).filter q = l.filter q
 | [], j, y, h, _ => by simp at h
 | z :: l, 0, y, h, hq => by
  simp at h
  subst h
  rw [List.eraseIdx_cons_zero, List.filter_cons_of_neg (by simp [hq])]
 | z :: l, j + 1, y, h, hq => by
  rw [List.eraseIdx_cons_succ]
  have ih := filter_eraseIdx (l := l) (j := j) (y := y) (by simpa using h) hq
  by_cases hz : q z = true
  ·rw [List.filter_cons_of_pos hz, List.filter_cons_of_pos hz, ih]
  ·rw [List.filter_cons_of_neg hz, List.filter_cons_of_neg hz, ih]
theorem erase_cut' {α β : Type} [DecidableEq α] : ∀ {m : List (α × β)} {x : α} {v0 : β} {j : Nat}, (m.map Prod.fst).Nodup → m[j]? = some (x, v0) → (m.filter fun p => !decide (p.1 = x)) = m.eraseIdx j
 | [], x, v0, j, _, h => by simp at h
 | p :: m, x, v0, j, hn, h => by
  rw [List.map_cons, List.nodup_cons] at hn
  cases j with
  | zero =>
   simp at h
   subst h
   rw [List.eraseIdx_cons_zero, List.filter_cons_of_neg (by simp)]
   refine List.filter_eq_self.2 fun q hq => ?_
   have : q.1 ≠ x := fun e => hn.1 (List.mem_map.2 ⟨q, hq, e⟩)
   simpa using this
  | succ j =>
   have h' : m[j]? = some (x, v0) := by simpa using h
   have hp : p.1 ≠ x := fun e => hn.1 (List.mem_map.2 ⟨(x, v0), List.mem_of_getElem? h', e.symm⟩)
   rw [List.eraseIdx_cons_succ, List.filter_cons_of_pos (by simpa using hp), erase_cut' hn.2 h']
section
variable {P : Program} {t k e : TypeId} {α β : Type} [DecidableEq α] {encK : α → Value} {encV : β → Value} {okK : α → Prop} {zero : Value}
variable {w w' : World} {r it : Nat} {m left : List (α × β)}
/-- delete(m, x), x no longer to come. -/
theorem IterIs.delete_ (T : MapTy P t k e α β encK encV okK zero) (h : IterIs encK encV okK w it r m left) {x : α} (hx : okK x) (hl : ∀ p ∈ left, p.1 ≠ x) (ty : TypeId) :
  ∃ w', (Builtin.delete_ #[t, k] ty #[.map (some r), encK x]).run P w = .ok (.tuple #[]) w' ∧ IterIs encK encV okK w' it r (cut m x) left ∧ w.grownBy w' (some r) ∧ w'.heap.size = w.heap.size := by
 obtain ⟨l, hlx⟩ := T.reads x hx
 have hn := MapIs.nodup T h.map
 have hne := h.ne
 obtain ⟨es, clock, since, seen, c0, hb, hm, hs, hk, hi, hold, hsc, hsk, hleft⟩ := h
 rcases MapIs.find (w := w) T hm hk hx with ⟨h1, h2, h3⟩ | ⟨j, y, v0, h1, h2, h3, h4⟩
 ·have hcut : cut m x = m := by
   unfold cut
   exact List.filter_eq_self.2 fun p hp => by simpa using look_none.1 h2 p hp
  refine ⟨setBlock w r (.map es clock), ?_, ⟨es, clock, since, seen, c0, heap_setBlock_same hb _, by rw [hcut]; exact hm, hs, fun p hp => hk p (mem_cut.1 hp).1, (heap_setBlock_other hb _ hne).trans hi, hold, hsc, hsk, hleft⟩, (grown_setBlock hb _).1, (grown_setBlock hb _).2⟩
  simp [Builtin.delete_, run_underlying T.und, MapKept.run_getObj_map hb, T.keyed.check w _ hlx, h1, MapKept.run_setObj_map _ hb, Result.andThen, setBlock]
 ·have hjl : j < es.toList.length := (List.getElem?_eq_some_iff.1 h2).1
  have hjs : j < es.size := by simpa using hjl
  have hsub : (es.eraseIdxIfInBounds j).toList = es.toList.eraseIdx j := by
   unfold Array.eraseIdxIfInBounds
   rw [dif_pos hjs]
   simp
  have hseen : seen.contains y.born = true := by
   cases hc : seen.contains y.born with
   | true => rfl
   | false =>
    have hy : y ∈ (leftOf es seen).toList := by
     unfold leftOf
     rw [Array.toList_filter]
     exact List.mem_filter.2 ⟨List.mem_of_getElem? h2, by rw [hc]; rfl⟩
    have : (y.key, y.val) ∈ left.map (fun p => (encK p.1, encV p.2)) := by rw [← hleft]; exact List.mem_map.2 ⟨y, hy, rfl⟩
    obtain ⟨p, hp, he⟩ := List.mem_map.1 this
    simp at he
    exact absurd (T.inj _ _ (he.1.trans h3)) (hl p hp)
  refine ⟨setBlock w r (.map (es.eraseIdxIfInBounds j) clock), ?_, ⟨_, clock, since, seen, c0, heap_setBlock_same hb _, ?_, stamped_erase hs j, fun p hp => hk p (mem_cut.1 hp).1, (heap_setBlock_other hb _ hne).trans hi, ?_, hsc, hsk, ?_⟩, (grown_setBlock hb _).1, (grown_setBlock hb _).2⟩
  ·simp [Builtin.delete_, run_underlying T.und, MapKept.run_getObj_map hb, T.keyed.check w _ hlx, h1, MapKept.run_setObj_map _ hb, Result.andThen, setBlock]
  ·rw [hsub, Go.ChangeMaps.map_eraseIdx, hm, ← Go.ChangeMaps.map_eraseIdx]
   congr 1
   unfold cut
   exact (erase_cut' hn h4).symm
  ·intro z hz
   rw [hsub] at hz
   exact hold z (List.mem_of_mem_eraseIdx hz)
  ·rw [← hleft]
   congr 1
   unfold leftOf
   rw [Array.toList_filter, Array.toList_filter, hsub]
   exact filter_eraseIdx h2 (by rw [hseen]; rfl)
end
end Go.Proofs.Ythofngceiecniaa
/- What vessels can hold of a fountain, as a map's keys. -/
namespace Go.Proofs.Ythofngceiecniaa
open Go.RowKit Go.Shelf

structure D4 where
 a : Int
 b : Int
 c : Int
 d : Int
 deriving DecidableEq
def D4.key (x : D4) : Value := .agg #[.int .i64 x.a, .int .i64 x.b, .int .i64 x.c, .int .i64 x.d]
def D4.toH (x : D4) : Held := [x.a, x.b, x.c, x.d]
def ofH (s : Held) : D4 := ⟨heldAt s 0, heldAt s 1, heldAt s 2, heldAt s 3⟩
theorem ofH_toH (x : D4) : ofH x.toH = x := rfl
theorem toH_ofH {s : Held} (h : s.length = 4) : (ofH s).toH = s := by
 match s, h with
 | [a, b, c, d], _ => rfl
theorem toH_inj {x y : D4} (h : x.toH = y.toH) : x = y := by rw [← ofH_toH x, ← ofH_toH y, h]
def okZ (x : Int) : Prop := (Lit.int .i64 x).wf = true
theorem okZ_of {x : Int} (h1 : -1000000000000 ≤ x) (h2 : x ≤ 1000000000000) : okZ x := by
 have e1 : IntKind.i64.min = -9223372036854775808 := by decide
 have e2 : IntKind.i64.max = 9223372036854775807 := by decide
 show (decide (IntKind.i64.min ≤ x) && decide (x ≤ IntKind.i64.max)) = true
 rw [e1, e2]
 simp only [Bool.and_eq_true, decide_eq_true_eq]
 omega
def okD (x : D4) : Prop := okZ x.a ∧ okZ x.b ∧ okZ x.c ∧ okZ x.d
abbrev CanMap (w : World) (r : Nat) (m : List (D4 × Bool)) : Prop := MapIs D4.key Value.bool okD w r m
theorem arr4 : WideMaps.ArrKey Try.prog 97 3 4 := ⟨Try.underlying97, by kernel_rfl, by kernel_rfl, by kernel_rfl⟩
theorem types_pos : ∃ m, Try.prog.types.size = m + 1 := by
 have h : 0 < Try.prog.types.size := of_decide_eq_true (by kernel_rfl)
 exact ⟨Try.prog.types.size - 1, by omega⟩
theorem keyOf_four {P : Program} {k e : TypeId} {q : IntKind} (A : WideMaps.ArrKey P k e 4) (he : P.underlying e = some (.int q)) (hsz : ∃ m, P.types.size = m + 1) {a b c d : Int} (wa : (Lit.int q a).wf = true) (wb : (Lit.int q b).wf = true) (wc : (Lit.int q c).wf = true) (wd : (Lit.int q d).wf = true) :
  keyOf P k (.agg #[.int q a, .int q b, .int q c, .int q d]) = some (.string (keyBytes [.int q a, .int q b, .int q c, .int q d])) := by
 have hkt := A.keyType hsz
 obtain ⟨m, hm⟩ := hsz
 unfold keyOf
 simp only [A.hu]
 rw [if_pos (by simp [hkt, Value.formed, A.hu, A.size]), hm]
 unfold Program.keyLits
 simp only [A.hu, Value.cells]
 rw [if_pos (by rw [A.size]; rfl), show List.range 4 = [0, 1, 2, 3] from rfl, List.mapM_cons, List.mapM_cons, List.mapM_cons, List.mapM_cons, List.mapM_nil]
 simp [A.one, Program.keyLits, he, wa, wb, wc, wd]
theorem canTy : MapTy Try.prog 92 97 4 D4 Bool D4.key Value.bool okD (.bool false) where
 und := Try.underlying92
 keyed := Maps.Keyed.of_law arr4.law
 reads := fun x hx => ⟨_, keyOf_four arr4 Try.underlying3 types_pos hx.1 hx.2.1 hx.2.2.1 hx.2.2.2⟩
 inj := fun x y h => by
  obtain ⟨a, b, c, d⟩ := x
  obtain ⟨a', b', c', d'⟩ := y
  simp [D4.key] at h
  simp [h]
 zero := fun w => by kernel_rfl
/-- The map's keys are those for which P is so; all say true. -/
structure CanIs (m : List (D4 × Bool)) (P : Held → Prop) : Prop where
 all : ∀ p ∈ m, p.2 = true
 keys : ∀ x : D4, (∃ v, (x, v) ∈ m) ↔ P x.toH
section
variable {m : List (D4 × Bool)} {P Q : Held → Prop} {x : D4}
theorem CanIs.nil : CanIs [] fun _ => False := ⟨(fun p h => by cases h), fun x => ⟨(fun ⟨v, h⟩ => by cases h), fun h => h.elim⟩⟩
theorem CanIs.congr (h : CanIs m P) (e : ∀ x : D4, P x.toH ↔ Q x.toH) : CanIs m Q := ⟨h.all, fun x => (h.keys x).trans (e x)⟩
theorem CanIs.put (h : CanIs m P) (x : D4) : CanIs (put m x true) fun s => P s ∨ s = x.toH := by
 refine ⟨fun p hp => ?_, fun y => ?_⟩
 ·rcases mem_put hp with rfl | ⟨hp, _⟩
  ·rfl
  ·exact h.all p hp
 ·have hl : ∀ m' : List (D4 × Bool), (∃ v, (y, v) ∈ m') ↔ ∃ p ∈ m', p.1 = y := fun m' => ⟨fun ⟨v, hv⟩ => ⟨_, hv, rfl⟩, fun ⟨p, hp, e⟩ => ⟨p.2, by rw [← e]; exact hp⟩⟩
  constructor
  ·rintro ⟨v, hv⟩
   rcases mem_put hv with e | ⟨hv, _⟩
   ·right
    have : y = x := congrArg Prod.fst e
    rw [this]
   ·left
    exact (h.keys y).1 ⟨v, hv⟩
  ·intro hy
   have h1 := look_put (m := m) (x := x) (y := y) (v := true)
   by_cases e : y = x
   ·rw [if_pos e] at h1
    exact ⟨_, look_mem h1⟩
   ·rw [if_neg e] at h1
    rcases hy with hy | hy
    ·obtain ⟨v, hv⟩ := (h.keys y).2 hy
     cases hl2 : look m y with
     | none => exact absurd rfl (look_none.1 hl2 _ hv)
     | some u =>
      rw [hl2] at h1
      exact ⟨_, look_mem h1⟩
    ·exact absurd (toH_inj hy) e
theorem CanIs.cut (h : CanIs m P) (x : D4) : CanIs (cut m x) fun s => P s ∧ s ≠ x.toH := by
 refine ⟨fun p hp => h.all p (mem_cut.1 hp).1, fun y => ?_⟩
 constructor
 ·rintro ⟨v, hv⟩
  obtain ⟨h1, h2⟩ := mem_cut.1 hv
  exact ⟨(h.keys y).1 ⟨v, h1⟩, fun e => h2 (toH_inj e)⟩
 ·rintro ⟨h1, h2⟩
  obtain ⟨v, hv⟩ := (h.keys y).2 h1
  exact ⟨v, mem_cut.2 ⟨hv, fun e => h2 (by show y.toH = x.toH; rw [show y = x from e])⟩⟩
theorem CanIs.look_some (h : CanIs m P) (hp : P x.toH) : look m x = some true := by
 obtain ⟨v, hv⟩ := (h.keys x).2 hp
 cases hl : look m x with
 | none => exact absurd rfl (look_none.1 hl _ hv)
 | some u =>
  have := h.all _ (look_mem hl)
  dsimp only at this
  rw [this]
theorem CanIs.look_none (h : CanIs m P) (hp : ¬ P x.toH) : look m x = none := by
 cases hl : look m x with
 | none => rfl
 | some u => exact absurd ((h.keys x).1 ⟨u, look_mem hl⟩) hp
end
theorem info_can : (Try.prog.info? 92).map (fun i => (i.zero, i.size, i.bytes)) = some (some (.map none), 1, 8) := by kernel_rfl
theorem elem_can : ElemAt Try.prog 93 92 (.map none) 1 8 := by
 obtain ⟨i0, hi, hz0, hz1, hz2⟩ := info_parts info_can
 exact ⟨i0, Try.underlying93, hi, hz0, hz1, hz2, rfl, by decide⟩
end Go.Proofs.Ythofngceiecniaa
/- mix.table.told: what lies in memory meanwhile. -/
namespace Go.Proofs.Ythofngceiecniaa
open Go.RowKit Go.Shelf

def canV (r : Nat) : Value := .map (some r)
/-- A fountain's truths in memory: times ms, in maps rs. -/
structure TrAt (w : World) (gU : Nat) (T : Tb) (f : Int) (A : Option Addr) (n c : Nat) (rs : List Nat) (ms : List (List (D4 × Bool))) : Prop where
 blk : Blk w gU 95 (trC T f A n c)
 tb : TbAt w T
 rd : Reads w w.heap.size 1 A n (rs.map canV)
 len : ms.length = n
 maps : ∀ (i r : Nat) (m : List (D4 × Bool)), rs[i]? = some r → ms[i]? = some m → CanMap w r m
theorem TrAt.below {w w' : World} {gU : Nat} {T : Tb} {f : Int} {A : Option Addr} {n c : Nat} {rs : List Nat} {ms : List (List (D4 × Bool))} (h : TrAt w gU T f A n c rs ms) (hb : Below w.heap.size w w') : TrAt w' gU T f A n c rs ms :=
 ⟨h.blk.below hb h.blk.lt, h.tb.below hb, (h.rd.below hb).more hb.size, h.len, fun i r m hr hm => (h.maps i r m hr hm).below hb (h.maps i r m hr hm).lt⟩
/-- The same, and that it is the call's own. -/
structure TrOwn (w : World) (B : Nat) (gU : Nat) (T : Tb) (f : Int) (A : Option Addr) (n c : Nat) (rs : List Nat) (ms : List (List (D4 × Bool))) : Prop where
 blk : Blk w gU 95 (trC T f A n c)
 own : Own w B 92 1 A n c (rs.map canV)
 len : ms.length = n
 maps : ∀ (i r : Nat) (m : List (D4 × Bool)), rs[i]? = some r → ms[i]? = some m → CanMap w r m
 ge : B ≤ gU
theorem TrOwn.at_ {w : World} {B gU : Nat} {T : Tb} {f : Int} {A : Option Addr} {n c : Nat} {rs : List Nat} {ms : List (List (D4 × Bool))} (h : TrOwn w B gU T f A n c rs ms) (ht : TbAt w T) : TrAt w gU T f A n c rs ms :=
 ⟨h.blk, ht, h.own.reads (Nat.le_refl _), h.len, h.maps⟩
theorem TrOwn.below {w w' : World} {B gU : Nat} {T : Tb} {f : Int} {A : Option Addr} {n c : Nat} {rs : List Nat} {ms : List (List (D4 × Bool))} (h : TrOwn w B gU T f A n c rs ms) (hb : Below w.heap.size w w') : TrOwn w' B gU T f A n c rs ms :=
 ⟨h.blk.below hb h.blk.lt, h.own.below hb (Nat.le_refl _), h.len, fun i r m hr hm => (h.maps i r m hr hm).below hb (h.maps i r m hr hm).lt, h.ge⟩
theorem TrOwn.off {w w' : World} {B gU g0 : Nat} {T : Tb} {f : Int} {A : Option Addr} {n c : Nat} {rs : List Nat} {ms : List (List (D4 × Bool))} {t : TypeId} {cs : Array Value} (h : TrOwn w B gU T f A n c rs ms) (hg : w.grownBy w' (some g0)) (h0 : g0 < B) (hb : Blk w g0 t cs) : TrOwn w' B gU T f A n c rs ms :=
 ⟨h.blk.grown hg (fun e => by have := h.ge; cases e; omega), h.own.grown hg (fun a ha e => by have := (h.own.lt ha).1; have := Option.some.inj e; omega), h.len, fun i r m hr hm => (h.maps i r m hr hm).grown hg (fun e => by
  obtain ⟨es, cl, hb2, _⟩ := h.maps i r m hr hm
  unfold Blk at hb
  rw [Option.some.inj e, hb] at hb2
  cases hb2), h.ge⟩
/-- What told hands back. -/
def ToldOut (w : World) (T : Tb) (f : Int) (e : Ending) (w' : World) : Prop :=
 ∃ gU b A n c rs ms, e = .returned (.tuple #[.pointer (some ⟨gU, 0, none⟩), .bool b]) ∧ Below w.heap.size w w' ∧ TrOwn w' w.heap.size gU T f A n c rs ms ∧ n = T.m.acts.length + 1 ∧ (∀ (i : Nat) (m : List (D4 × Bool)), ms[i]? = some m → CanIs m (Truth T.m f T.L i)) ∧ (b = true ↔ Truth T.m f T.L 0 zeroH)

/-- The times, boxes bs, maps xs besides, marks ds. -/
structure TS (w : World) (A : Option Addr) (n c : Nat) (rs : List Nat) (ms : List (List (D4 × Bool))) (bs : List (Nat × TypeId × Array Value)) (xs : List (Nat × List (D4 × Bool))) (ds : List Deferred) (W : World) : Prop where
 bel : Below w.heap.size w W
 own : Own W w.heap.size 92 1 A n c (rs.map canV)
 len : ms.length = n
 maps : ∀ (i r : Nat) (m : List (D4 × Bool)), rs[i]? = some r → ms[i]? = some m → CanMap W r m ∧ w.heap.size ≤ r
 nodup : rs.Nodup
 bs : ∀ b ∈ bs, w.heap.size ≤ b.1 ∧ Blk W b.1 b.2.1 b.2.2 ∧ some b.1 ≠ A.map (·.block)
 xs : ∀ x ∈ xs, CanMap W x.1 x.2 ∧ w.heap.size ≤ x.1 ∧ x.1 ∉ rs
 marks : Marks w.heap.size W ds
theorem blk_not {W : World} {b g : Nat} {t : TypeId} {cs : Array Value} {o : Obj} (h : Blk W b t cs) (ho : W.heap[g]? = some o) (hc : o.isCells = false) : b ≠ g := fun e => by
 subst e
 unfold Blk at h
 rw [h] at ho
 cases ho
 simp [Obj.isCells] at hc
theorem map_not {W : World} {r g : Nat} {m : List (D4 × Bool)} {t : TypeId} {cs : Array Value} (h : CanMap W r m) (hg : Blk W g t cs) : r ≠ g := fun e => by
 subst e
 obtain ⟨es, cl, hb, _⟩ := h
 unfold Blk at hg
 rw [hb] at hg
 cases hg
theorem CanMap.obj {W : World} {r : Nat} {m : List (D4 × Bool)} (h : CanMap W r m) : ∃ es cl, W.heap[r]? = some (.map es cl) := by
 obtain ⟨es, cl, hb, _⟩ := h
 exact ⟨es, cl, hb⟩
section
variable {w W W' : World} {A : Option Addr} {n c : Nat} {rs : List Nat} {ms : List (List (D4 × Bool))} {bs bs' : List (Nat × TypeId × Array Value)} {xs xs' : List (Nat × List (D4 × Bool))} {ds : List Deferred}
theorem TS.blk (h : TS w A n c rs ms bs xs ds W) (i : Nat) {g : Nat} {t : TypeId} {cs : Array Value} (hi : bs[i]? = some (g, t, cs)) : Blk W g t cs := (h.bs _ (List.mem_of_getElem? hi)).2.1
theorem TS.mlen (h : TS w A n c rs ms bs xs ds W) : rs.length = n := by have := h.own.len; simpa using this
theorem TS.mapsAll (h : TS w A n c rs ms bs xs ds W) : ∀ r ∈ rs, (∃ m, CanMap W r m) ∧ w.heap.size ≤ r := fun r hr => by
 obtain ⟨i, hi, rfl⟩ := List.getElem_of_mem hr
 have h1 := h.mlen
 have h2 := h.len
 have hm : ms[i]? = some ms[i] := List.getElem?_eq_getElem (by omega)
 have := h.maps i _ _ (List.getElem?_eq_getElem hi) hm
 exact ⟨⟨_, this.1⟩, this.2⟩
theorem TS.below (h : TS w A n c rs ms bs xs ds W) (hb : Below W.heap.size W W') : TS w A n c rs ms bs xs ds W' :=
 ⟨h.bel.trans (hb.mono h.bel.size), h.own.below hb (Nat.le_refl _), h.len, fun i r m hr hm => ⟨(h.maps i r m hr hm).1.below hb (h.maps i r m hr hm).1.lt, (h.maps i r m hr hm).2⟩, h.nodup, fun b hb' => ⟨(h.bs b hb').1, (h.bs b hb').2.1.below hb (h.bs b hb').2.1.lt, (h.bs b hb').2.2⟩, fun x hx => ⟨(h.xs x hx).1.below hb (h.xs x hx).1.lt, (h.xs x hx).2⟩, h.marks.below hb⟩
theorem TS.sub (h : TS w A n c rs ms bs xs ds W) (hs : ∀ b ∈ bs', b ∈ bs) : TS w A n c rs ms bs' xs ds W := ⟨h.bel, h.own, h.len, h.maps, h.nodup, fun b hb => h.bs b (hs b hb), h.xs, h.marks⟩
theorem TS.subX (h : TS w A n c rs ms bs xs ds W) (hs : ∀ b ∈ xs', b ∈ xs) : TS w A n c rs ms bs xs' ds W := ⟨h.bel, h.own, h.len, h.maps, h.nodup, h.bs, fun b hb => h.xs b (hs b hb), h.marks⟩
theorem TS.add (h : TS w A n c rs ms bs xs ds W) {g : Nat} {t : TypeId} {cs : Array Value} (hg : w.heap.size ≤ g) (hb : Blk W g t cs) (hr : some g ≠ A.map (·.block)) : TS w A n c rs ms (bs ++ [(g, t, cs)]) xs ds W :=
 ⟨h.bel, h.own, h.len, h.maps, h.nodup, fun b k => by
  rcases List.mem_append.1 k with k | k
  ·exact h.bs b k
  ·obtain rfl := List.mem_singleton.1 k
   exact ⟨hg, hb, hr⟩, h.xs, h.marks⟩
/-- A block that was not there before is not the row. -/
theorem TS.new_row (h : TS w A n c rs ms bs xs ds W) {g : Nat} (hg : W.heap.size ≤ g) : some g ≠ A.map (·.block) := by
 cases hA : A with
 | none => simp
 | some a =>
  have := (h.own.lt hA).2
  simp
  omega
theorem TS.addX (h : TS w A n c rs ms bs xs ds W) {r : Nat} {m : List (D4 × Bool)} (hm : CanMap W r m) (hg : w.heap.size ≤ r) (hr : r ∉ rs) : TS w A n c rs ms bs (xs ++ [(r, m)]) ds W :=
 ⟨h.bel, h.own, h.len, h.maps, h.nodup, h.bs, fun x k => by
  rcases List.mem_append.1 k with k | k
  ·exact h.xs x k
  ·obtain rfl := List.mem_singleton.1 k
   exact ⟨hm, hg, hr⟩, h.marks⟩
theorem TS.more (h : TS w A n c rs ms bs xs ds W) {D : Nat} (hD : w.heap.size ≤ D) (hd : W.heap[D]? = some (.deferred (some []))) (hn : ∀ d ∈ ds, ∀ r, d.target = .collected r → r < D) (a : Array Value) : TS w A n c rs ms bs xs ({ target := .collected D, args := a } :: ds) W :=
 ⟨h.bel, h.own, h.len, h.maps, h.nodup, h.bs, h.xs, h.marks.more hD hd hn a⟩
/-- Something else turns: block g. -/
theorem TS.core (h : TS w A n c rs ms bs xs ds W) {g : Nat} (hg : W.grownBy W' (some g)) (h0 : w.heap.size ≤ g) (hA : some g ≠ A.map (·.block)) (hb : ∀ b ∈ bs, b.1 ≠ g) (hr : ∀ r ∈ rs, r ≠ g) (hx : ∀ x ∈ xs, x.1 ≠ g) (hd : ∀ x, W.heap[g]? ≠ some (.deferred x)) : TS w A n c rs ms bs xs ds W' :=
 ⟨h.bel.grown hg h.bel.size (fun k e => by cases e; exact h0), h.own.grown hg (fun a ha e => hA (by rw [ha]; exact e.symm)), h.len, fun i r m hir him => ⟨(h.maps i r m hir him).1.grown hg (fun e => hr r (List.mem_of_getElem? hir) (Option.some.inj e)), (h.maps i r m hir him).2⟩, h.nodup,
  fun b k => ⟨(h.bs b k).1, (h.bs b k).2.1.grown hg (fun e => hb b k (Option.some.inj e)), (h.bs b k).2.2⟩, fun x k => ⟨(h.xs x k).1.grown hg (fun e => hx x k (Option.some.inj e)), (h.xs x k).2⟩,
  h.marks.keep fun d hd' k hk h0' => (hg.block k (Array.getElem?_eq_some_iff.1 h0').1 (fun e => by cases e; exact hd _ h0')).trans h0'⟩
/-- An iterator's step. -/
theorem TS.iter (h : TS w A n c rs ms bs xs ds W) {g : Nat} {x1 x2 x3 x4} (ho : W.heap[g]? = some (.mapIter x1 x2 x3 x4)) (h0 : w.heap.size ≤ g) (hg : W.grownBy W' (some g)) : TS w A n c rs ms bs xs ds W' := by
 refine h.core hg h0 ?_ (fun b k => blk_not (h.bs b k).2.1 ho rfl) (fun r hr e => ?_) (fun x k e => ?_) (fun x e => by rw [ho] at e; cases e)
 ·intro e
  rcases h.own.form with ⟨e1, _⟩ | ⟨g', cur, e1, _, hbk, _⟩
  ·rw [e1] at e; cases e
  ·rw [e1] at e
   exact blk_not hbk ho rfl (Option.some.inj e).symm
 ·obtain ⟨⟨m, hm⟩, _⟩ := h.mapsAll r hr
  obtain ⟨es, cl, hb⟩ := hm.obj
  rw [e, ho] at hb
  cases hb
 ·obtain ⟨es, cl, hb⟩ := (h.xs x k).1.obj
  rw [e, ho] at hb
  cases hb
theorem TS.mapRow (h : TS w A n c rs ms bs xs ds W) {r : Nat} {m : List (D4 × Bool)} (hm : CanMap W r m) : some r ≠ A.map (·.block) := by
 intro e
 rcases h.own.form with ⟨e1, _⟩ | ⟨g', cur, e1, _, hbk, _⟩
 ·rw [e1] at e; cases e
 ·rw [e1] at e
  exact map_not hm hbk (Option.some.inj e)
/-- The map besides turns. -/
theorem TS.setX {r : Nat} {m m' : List (D4 × Bool)} (h : TS w A n c rs ms bs [(r, m)] ds W) (hg : W.grownBy W' (some r)) (hm : CanMap W' r m') : TS w A n c rs ms bs [(r, m')] ds W' := by
 have hx := h.xs (r, m) (by simp)
 have h1 := (h.subX (xs' := []) (fun b k => by cases k)).core hg hx.2.1 (h.mapRow hx.1) (fun b k e => map_not hx.1 (h.bs b k).2.1 e.symm) (fun q hq e => hx.2.2 (by rw [← e]; exact hq)) (fun x k => by cases k) (fun x e => by
  obtain ⟨es, cl, hb⟩ := hx.1.obj
  rw [hb] at e
  cases e)
 exact h1.addX hm hx.2.1 hx.2.2
/-- A time's map turns. -/
theorem TS.setMap (h : TS w A n c rs ms bs xs ds W) {i r : Nat} {m m' : List (D4 × Bool)} (hir : rs[i]? = some r) (him : ms[i]? = some m) (hg : W.grownBy W' (some r)) (hm : CanMap W' r m') : TS w A n c rs (ms.set i m') bs xs ds W' := by
 have hx := h.maps i r m hir him
 refine ⟨h.bel.grown hg h.bel.size (fun k e => by cases e; exact hx.2), h.own.grown hg (fun a ha e => h.mapRow hx.1 (by rw [ha]; exact e.symm)), by rw [List.length_set]; exact h.len, fun j q m2 hq hm2 => ?_, h.nodup,
  fun b k => ⟨(h.bs b k).1, (h.bs b k).2.1.grown hg (fun e => map_not hx.1 (h.bs b k).2.1 (Option.some.inj e).symm), (h.bs b k).2.2⟩, fun x k => ⟨(h.xs x k).1.grown hg (fun e => (h.xs x k).2.2 (by rw [Option.some.inj e]; exact List.mem_of_getElem? hir)), (h.xs x k).2⟩,
  h.marks.keep fun d hd' k hk h0' => (hg.block k (Array.getElem?_eq_some_iff.1 h0').1 (fun e => by
   cases e
   obtain ⟨es, cl, hb⟩ := hx.1.obj
   rw [hb] at h0'
   cases h0')).trans h0'⟩
 by_cases e : i = j
 ·subst e
  rw [hir] at hq
  cases hq
  rw [List.getElem?_set_self (List.getElem?_eq_some_iff.1 him).1] at hm2
  cases hm2
  exact ⟨hm, hx.2⟩
 ·rw [List.getElem?_set_ne e] at hm2
  have hy := h.maps j q m2 hq hm2
  refine ⟨hy.1.grown hg (fun e2 => ?_), hy.2⟩
  have e3 : q = r := Option.some.inj e2
  subst e3
  exact e ((List.getElem?_inj (List.getElem?_eq_some_iff.1 hir).1 h.nodup).1 (hir.trans hq.symm))
/-- A box turns. -/
theorem TS.setBox (h : TS w A n c rs ms bs xs ds W) {g : Nat} {t : TypeId} {cs cs' : Array Value} (hin : (g, t, cs) ∈ bs) (hg : W.grownBy W' (some g)) (hb : Blk W' g t cs') (hs : ∀ b ∈ bs', (b ∈ bs ∧ b.1 ≠ g) ∨ b = (g, t, cs')) : TS w A n c rs ms bs' xs ds W' := by
 have hx := h.bs _ hin
 dsimp only at hx
 have hobj : W.heap[g]? = some (.cells cs t (0, 0)) := hx.2.1
 have h1 := (h.sub (bs' := bs.filter fun b => b.1 != g) (fun b k => (List.mem_filter.1 k).1)).core hg hx.1 hx.2.2 (fun b k => by have := (List.mem_filter.1 k).2; simpa using this) (fun r hr e => by
  obtain ⟨⟨m, hm⟩, _⟩ := h.mapsAll r hr
  exact map_not hm hx.2.1 e) (fun x k e => map_not (h.xs x k).1 hx.2.1 e) (fun x e => by rw [hobj] at e; cases e)
 refine ⟨h1.bel, h1.own, h1.len, h1.maps, h1.nodup, fun b k => ?_, h1.xs, h1.marks⟩
 rcases hs b k with ⟨k1, k2⟩ | rfl
 ·exact h1.bs b (List.mem_filter.2 ⟨k1, by simpa using k2⟩)
 ·exact ⟨hx.1, hb, hx.2.2⟩
/-- All maps lie below S. -/
def TS.lim (S : Nat) (rs : List Nat) (xs : List (Nat × List (D4 × Bool))) (ds : List Deferred) : Prop := (∀ r ∈ rs, r < S) ∧ (∀ x ∈ xs, x.1 < S) ∧ ∀ d ∈ ds, ∀ r, d.target = .collected r → r < S
theorem TS.shut {S : Nat} (h : TS w A n c rs ms bs xs ds W) (hs : Shut S W W') (h0 : w.heap.size ≤ S) (hl : TS.lim S rs xs ds) : TS w A n c rs ms bs xs ds W' :=
 ⟨h.bel.trans (hs.below.mono h0), by
  refine ⟨h.own.1, ?_⟩
  rcases h.own.2 with h' | ⟨g, cap', cur, hv, hb, hg, hr⟩
  ·exact .inl h'
  ·exact .inr ⟨g, cap', cur, hv, hb, hs.cells _ _ _ _ hg, hr⟩, h.len, fun i r m hr hm => ⟨(h.maps i r m hr hm).1.below hs.below (hl.1 r (List.mem_of_getElem? hr)), (h.maps i r m hr hm).2⟩, h.nodup,
  fun b k => ⟨(h.bs b k).1, hs.blk (h.bs b k).2.1, (h.bs b k).2.2⟩, fun x k => ⟨(h.xs x k).1.below hs.below (hl.2.1 x k), (h.xs x k).2⟩, h.marks.shut hs hl.2.2⟩
theorem TS.limAll (h : TS w A n c rs ms bs xs ds W) : TS.lim W.heap.size rs xs ds := ⟨fun r hr => by obtain ⟨⟨m, hm⟩, _⟩ := h.mapsAll r hr; exact hm.lt, fun x k => (h.xs x k).1.lt, fun d hd r hr => h.marks.lt d hd r hr⟩
end
/-- What reads cells, stays as long as all blocks of cells stay. -/
theorem Reads.cells {W W' : World} {B size n : Nat} {A : Option Addr} {xs : List Value} (h : Reads W B size A n xs) (hk : ∀ (b : Nat) cs t fr, W.heap[b]? = some (.cells cs t fr) → W'.heap[b]? = some (.cells cs t fr)) (hs : 0 < size) : Reads W' B size A n xs := by
 refine ⟨h.1, fun hn => ?_⟩
 obtain ⟨ad, e, hb, hc⟩ := h.2 hn
 refine ⟨ad, e, hb, fun j u hu => ?_⟩
 have h1 := hc j u hu
 obtain ⟨o, ho, hcell⟩ := cells_of_cell h1
 rw [← h1]
 refine World.cell?_of_block ?_
 rw [ho]
 cases o <;> simp [Obj.isCells] at hcell
 exact hk _ _ _ _ ho
theorem TbAt.cells {W W' : World} {T : Tb} (h : TbAt W T) (hk : ∀ (b : Nat) cs t fr, W.heap[b]? = some (.cells cs t fr) → W'.heap[b]? = some (.cells cs t fr)) (hz : W.heap.size ≤ W'.heap.size) : TbAt W' T :=
 ⟨hk _ _ _ _ h.blk, ⟨(h.mix.vessels.cells hk (by decide)).more hz, (h.mix.acts.cells hk (by decide)).more hz, (h.mix.tastes.cells hk (by decide)).more hz⟩, (h.all.cells hk (by decide)).more hz, h.small⟩
theorem MvIn.cells {g0 g1 g2 g3 : Nat} {T : Tb} {i f : Int} {has : Held} {W W' : World} (h : MvIn g0 g1 g2 g3 T i f has W) (hk : ∀ (b : Nat) cs t fr, W.heap[b]? = some (.cells cs t fr) → W'.heap[b]? = some (.cells cs t fr)) (hz : W.heap.size ≤ W'.heap.size) : MvIn g0 g1 g2 g3 T i f has W' :=
 ⟨hk _ _ _ _ h.t, hk _ _ _ _ h.i, hk _ _ _ _ h.f, hk _ _ _ _ h.h, h.tb.cells hk hz⟩
theorem cells_put {W : World} {l : Nat} {o o' : Obj} (h : W.heap[l]? = some o) (hc : o.isCells = false) (b : Nat) (cs : Array Value) (t : TypeId) (fr : Nat × Nat) (hb : W.heap[b]? = some (.cells cs t fr)) : (W.putObj l o').heap[b]? = some (.cells cs t fr) := by
 refine (World.putObj_heap_other ?_).trans hb
 intro e
 subst e
 rw [h] at hb
 cases hb
 simp [Obj.isCells] at hc
theorem blk_put {g : Nat} {t : TypeId} {cs : Array Value} {w : World} (W : World) (l : Nat) (o o' : Obj) (_ : w.heap.size ≤ l) (h : W.heap[l]? = some o) (hc : o.isCells = false) (_ : o.isWalk = false) : Blk W g t cs → Blk (W.putObj l o') g t cs :=
 fun hb => cells_put h hc _ _ _ _ hb
end Go.Proofs.Ythofngceiecniaa
/- The truths of a fountain: mix.table.told. -/
namespace Go.Proofs.Ythofngceiecniaa
open Go.RowKit
attribute [local go_sem] Oper.semAt_some
open Go.Shelf

theorem told_start (w : World) (T : Tb) (f : Int) : TS w (some ⟨w.heap.size + 1, 0, none⟩) 1 1 [w.heap.size] [[]] [(w.heap.size + 1 + 1, 95, trC T f (some ⟨w.heap.size + 1, 0, none⟩) 1 1), (w.heap.size + 1 + 1 + 1, 86, #[.pointer (some ⟨w.heap.size + 1 + 1, 0, none⟩)]), (w.heap.size + 1 + 1 + 1 + 1, 154, #[.func (.func 86) #[.pointer (some ⟨w.heap.size + 1 + 1, 0, none⟩)] #[]])] [] []
  (((((w.alloc (.map #[] 0)).alloc (.cells #[.map (some w.heap.size)] 92)).alloc (.cells #[.pointer (some ⟨T.g, 0, none⟩), .int .i64 f, .slice (some ⟨w.heap.size + 1, 0, none⟩) 1 1] 95)).alloc (.cells #[.pointer (some ⟨w.heap.size + 1 + 1, 0, none⟩)] 86)).alloc (.cells #[.func (.func 86) #[.pointer (some ⟨w.heap.size + 1 + 1, 0, none⟩)] #[]] 154)) := by
 have h := Lay.four (w.alloc (.map #[] 0)) 92 #[.map (some w.heap.size)] 95 #[.pointer (some ⟨T.g, 0, none⟩), .int .i64 f, .slice (some ⟨w.heap.size + 1, 0, none⟩) 1 1] 86 #[.pointer (some ⟨w.heap.size + 1 + 1, 0, none⟩)] 154 #[.func (.func 86) #[.pointer (some ⟨w.heap.size + 1 + 1, 0, none⟩)] #[]]
 rw [World.size_alloc] at h
 have hb0 : Below w.heap.size w (w.alloc (.map #[] 0)) := (Below.refl _ _).alloc (Nat.le_refl _) _
 refine ⟨hb0.trans (h.1.mono hb0.size), ⟨rfl, .inr ⟨w.heap.size + 1, 1, _, rfl, by omega, h.blk 0 rfl, Nat.le_refl _, by unfold maxLen; omega, rfl, rfl⟩⟩, rfl, fun i r m hr hm => ?_, by simp, fun b hb => ?_, (fun x hx => by cases hx), trivial⟩
 ·have hi : i = 0 := by
   have := (List.getElem?_eq_some_iff.1 hr).1
   simp at this
   exact this
  subst hi
  have e1 : w.heap.size = r := by simpa using hr
  have e2 : [] = m := by simpa using hm
  subst e1 e2
  exact ⟨(MapIs.made w).below h.1 (by simp), Nat.le_refl _⟩
 ·simp only [List.mem_cons, List.not_mem_nil, or_false] at hb
  rcases hb with rfl | rfl | rfl
  ·exact ⟨by dsimp only; omega, h.blk 1 rfl, by simp⟩
  ·exact ⟨by dsimp only; omega, h.blk 2 rfl, by simp; omega⟩
  ·exact ⟨by dsimp only; omega, h.blk 3 rfl, by simp; omega⟩
theorem fwd_zero {m : Mix} {f : Int} {A : List Held} {b : Bool} (hb : tastedB m f 0 zeroH = b) : ∀ x : D4, (b = true ∧ x.toH = zeroH) ↔ Fwd m f A 0 x.toH := fun x => by
 subst hb
 unfold Fwd
 constructor
 ·rintro ⟨h1, h2⟩; rw [h2]; exact ⟨rfl, h1⟩
 ·rintro ⟨h1, h2⟩; rw [h1] at h2; exact ⟨h2, h1⟩
theorem can_cell {W : World} {base n c i r : Nat} {A : Option Addr} {rs : List Nat} (h : Own W base 92 1 A n c (rs.map canV)) (hr : rs[i]? = some r) : ∃ g, A = some ⟨g, 0, none⟩ ∧ W.cell? ⟨g, i, none⟩ = some (.map (some r)) ∧ g < W.heap.size ∧ i < n := by
 have hi := (List.getElem?_eq_some_iff.1 hr).1
 have hn : rs.length = n := by have := h.len; simpa using this
 rcases h.form with ⟨_, rfl, _⟩ | ⟨g, cur, rfl, _, hb, h1, h2, h3, h4, h5⟩
 ·omega
 ·refine ⟨g, rfl, ?_, hb.lt, by omega⟩
  rw [hb.cell, ← Array.getElem?_toList]
  have h6 : (cur.toList.take (n * 1))[i]? = some (canV r) := by rw [h4, List.getElem?_map, hr]; rfl
  rw [List.getElem?_take, if_pos (by omega)] at h6
  exact h6
def sliceLen (W : World) (g i : Nat) : Nat := match W.cell? ⟨g, i, none⟩ with
 | some (.slice _ n _) => n
 | _ => 0
theorem TS.round {w W : World} {A : Option Addr} {n c : Nat} {rs : List Nat} {ms : List (List (D4 × Bool))} {bs : List (Nat × TypeId × Array Value)} {ds : List Deferred} (h : TS w A n c rs ms bs [] ds W) (k : Nat) :
  TS w A n c rs ms (bs ++ [(W.heap.size, 3, #[.int .i64 (k : Int)])] ++ [(W.heap.size + 1 + 1, 92, #[.map (some (W.heap.size + 1))])]) [(W.heap.size + 1, [])] ds (((W.alloc (.cells #[.int .i64 (k : Int)] 3)).alloc (.map #[] 0)).alloc (.cells #[.map (some (W.heap.size + 1))] 92)) := by
 have hz := h.bel.size
 have b1 : Below W.heap.size W (W.alloc (.cells #[.int .i64 (k : Int)] 3)) := (Below.refl _ _).alloc (Nat.le_refl _) _
 have h1 := (h.below b1).add (t := 3) (cs := #[.int .i64 (k : Int)]) hz (Blk.new W _ _) (h.new_row (Nat.le_refl _))
 have b2 : Below (W.alloc (.cells #[.int .i64 (k : Int)] 3)).heap.size (W.alloc (.cells #[.int .i64 (k : Int)] 3)) ((W.alloc (.cells #[.int .i64 (k : Int)] 3)).alloc (.map #[] 0)) := (Below.refl _ _).alloc (Nat.le_refl _) _
 have hm := MapIs.made (β := Bool) (encK := D4.key) (encV := Value.bool) (okK := okD) (W.alloc (.cells #[.int .i64 (k : Int)] 3))
 rw [World.size_alloc] at hm
 have hnr : W.heap.size + 1 ∉ rs := fun hr => by
  obtain ⟨⟨m, hm⟩, _⟩ := h.mapsAll _ hr
  have := hm.lt
  omega
 have h2 := (h1.below b2).addX hm (by omega) hnr
 have b3 : Below ((W.alloc (.cells #[.int .i64 (k : Int)] 3)).alloc (.map #[] 0)).heap.size ((W.alloc (.cells #[.int .i64 (k : Int)] 3)).alloc (.map #[] 0)) (((W.alloc (.cells #[.int .i64 (k : Int)] 3)).alloc (.map #[] 0)).alloc (.cells #[.map (some (W.heap.size + 1))] 92)) := (Below.refl _ _).alloc (Nat.le_refl _) _
 have hB := Blk.new ((W.alloc (.cells #[.int .i64 (k : Int)] 3)).alloc (.map #[] 0)) 92 #[.map (some (W.heap.size + 1))]
 rw [World.size_alloc, World.size_alloc] at hB
 exact (h2.below b3).add (by omega) hB (h.new_row (by omega))
def NextP (m : Mix) (f : Int) (A : List Held) (k : Nat) (vis : List D4) (s' : Held) : Prop := (∃ y ∈ vis, Goes m f A k y.toH s') ∧ tastedB m f (k + 1) s' = true
def NextQ (m : Mix) (f : Int) (A : List Held) (k : Nat) (vis : List D4) (fr to : Int) (s : Held) (pre : List Int) (s' : Held) : Prop := ((∃ y ∈ vis, Goes m f A k y.toH s') ∨ ∃ j ∈ pre, s' = shiftH s fr to j) ∧ tastedB m f (k + 1) s' = true
theorem IterIs.obj {w : World} {it r : Nat} {m left : List (D4 × Bool)} (h : IterIs D4.key Value.bool okD w it r m left) : ∃ x1 x2 x3 x4, w.heap[it]? = some (.mapIter x1 x2 x3 x4) := by
 obtain ⟨es, clock, since, seen, c0, _, _, _, _, h5, _⟩ := h
 exact ⟨_, _, _, _, h5⟩
theorem grown_cells {W W' : World} {g : Nat} {o : Obj} (hg : W.grownBy W' (some g)) (ho : W.heap[g]? = some o) (hc : o.isCells = false) (b : Nat) (cs : Array Value) (t : TypeId) (fr : Nat × Nat) (hb : W.heap[b]? = some (.cells cs t fr)) : W'.heap[b]? = some (.cells cs t fr) := by
 refine (hg.block b (Array.getElem?_eq_some_iff.1 hb).1 (fun e => ?_)).trans hb
 cases e
 rw [hb] at ho
 cases ho
 simp [Obj.isCells] at hc
theorem okD_fits {all s : Held} (h : Fits all s) (hr : ∀ q : Nat, 0 ≤ heldAt all q ∧ heldAt all q ≤ 12) : okD (ofH s) := by
 have key : ∀ i : Nat, i < 4 → okZ (heldAt s i) := fun i hi => by
  have h1 := h.le i hi
  have h2 := hr i
  exact okZ_of (by omega) (by omega)
 exact ⟨key 0 (by decide), key 1 (by decide), key 2 (by decide), key 3 (by decide)⟩
theorem fwd_len {m : Mix} {f : Int} {A : List Held} (h : allM m m.acts = some A) (hv : m.vessels.length ≤ 4) {t : Nat} {s all : Held} (hf : Fwd m f A t s) (ha : A[t]? = some all) : s.length = 4 := (fwd_fits h hv hf ha).lh
theorem goes_at {T : Tb} {f : Int} {k : Nat} {x : MAct} {all s s' : Held} (hA : ActAt T k x all) : Goes T.m f T.L k s s' ↔ ∃ j, (spanP T.m x f all s).1 ≤ j ∧ j ≤ (spanP T.m x f all s).2 ∧ s' = shiftH s (fromI T.m x) (toI T.m x) j := by
 constructor
 ·rintro ⟨x2, all2, j, h1, h2, h3, h4, h5⟩
  rw [hA.hx] at h1
  cases h1
  rw [hA.ha] at h2
  cases h2
  exact ⟨j, h3, h4, h5⟩
 ·rintro ⟨j, h3, h4, h5⟩
  exact ⟨x, all, j, hA.hx, hA.ha, h3, h4, h5⟩
theorem next_done {T : Tb} {f : Int} {k : Nat} {x : MAct} {all : Held} {vis : List D4} {y : D4} {s : Held} {xs : List (Mv T.m x f all s)} (hA : ActAt T k x all) (hs : y.toH = s) (h : MvAll xs) : ∀ s' : D4, NextQ T.m f T.L k vis (fromI T.m x) (toI T.m x) s (xs.map Subtype.val) s'.toH ↔ NextP T.m f T.L k (vis ++ [y]) s'.toH := fun s' => by
 subst hs
 unfold NextQ NextP
 refine and_congr_left fun _ => ?_
 constructor
 ·rintro (⟨z, hz, hg⟩ | ⟨j, hj, e⟩)
  ·exact ⟨z, by simp [hz], hg⟩
  ·obtain ⟨z, hz, rfl⟩ := List.mem_map.1 hj
   exact ⟨y, by simp, (goes_at hA).2 ⟨z.1, z.2.1, z.2.2, e⟩⟩
 ·rintro ⟨z, hz, hg⟩
  rcases List.mem_append.1 hz with hz | hz
  ·exact .inl ⟨z, hz, hg⟩
  ·obtain rfl := List.mem_singleton.1 hz
   obtain ⟨j, h1, h2, e⟩ := (goes_at hA).1 hg
   obtain ⟨z2, hz2, e2⟩ := h j h1 h2
   exact .inr ⟨j, List.mem_map.2 ⟨z2, hz2, e2⟩, e⟩
theorem next_end {T : Tb} {f : Int} {k : Nat} {x : MAct} {all : Held} {vis : List D4} {mk : List (D4 × Bool)} (hok : TbOk T) (hA : ActAt T k x all) (hp : vis.Perm (mk.map Prod.fst)) (hm : CanIs mk (Fwd T.m f T.L k)) : ∀ s' : D4, NextP T.m f T.L k vis s'.toH ↔ Fwd T.m f T.L (k + 1) s'.toH := fun s' => by
 unfold NextP
 show _ ↔ (∃ s, Fwd T.m f T.L k s ∧ Goes T.m f T.L k s s'.toH) ∧ tastedB T.m f (k + 1) s'.toH = true
 refine and_congr_left fun _ => ?_
 constructor
 ·rintro ⟨y, hy, hg⟩
  obtain ⟨p, hp2, rfl⟩ := List.mem_map.1 (hp.mem_iff.1 hy)
  exact ⟨p.1.toH, (hm.keys p.1).1 ⟨p.2, hp2⟩, hg⟩
 ·rintro ⟨s, hs, hg⟩
  have e := toH_ofH (fwd_len hok.all hok.vess hs hA.ha)
  rw [← e] at hs hg
  obtain ⟨v, hv⟩ := (hm.keys (ofH s)).2 hs
  exact ⟨ofH s, hp.mem_iff.2 (List.mem_map.2 ⟨_, hv, rfl⟩), hg⟩
theorem TS.push {w W0 V : World} {A A' : Option Addr} {n c c' : Nat} {rs : List Nat} {ms : List (List (D4 × Bool))} {bs : List (Nat × TypeId × Array Value)} {ds : List Deferred} {r : Nat} {m : List (D4 × Bool)} (h : TS w A n c rs ms bs [(r, m)] ds W0) (hg : W0.grownBy V (A.map (·.block)))
  (hown : Own V w.heap.size 92 1 A' (n + 1) c' (rs.map canV ++ [canV r])) (hA : A' = A ∨ A' = some ⟨W0.heap.size, 0, none⟩) : TS w A' (n + 1) c' (rs ++ [r]) (ms ++ [m]) bs [] ds V := by
 have hx := h.xs (r, m) (by simp)
 dsimp only at hx
 have hrow : ∀ k, A.map (·.block) = some k → w.heap.size ≤ k := fun k hk => by
  cases hA2 : A with
  | none => rw [hA2] at hk; cases hk
  | some a => rw [hA2] at hk; cases hk; exact (h.own.lt hA2).1
 refine ⟨h.bel.grown hg h.bel.size hrow, by rw [List.map_append]; exact hown, by rw [List.length_append, h.len]; rfl, fun i q m2 hq hm2 => ?_, ?_, fun b hb => ⟨(h.bs b hb).1, (h.bs b hb).2.1.grown hg (h.bs b hb).2.2, ?_⟩, (fun x hx => by cases hx), ?_⟩
 ·have hl := h.mlen
  have hl2 := h.len
  by_cases hi : i < n
  ·rw [List.getElem?_append_left (by omega)] at hq hm2
   have := h.maps i q m2 hq hm2
   exact ⟨this.1.grown hg (h.mapRow this.1), this.2⟩
  ·rw [List.getElem?_append_right (by omega)] at hq hm2
   have h0 : i - rs.length = 0 := by have := (List.getElem?_eq_some_iff.1 hq).1; simp at this; omega
   have h1 : i - ms.length = 0 := by omega
   rw [h0] at hq
   rw [h1] at hm2
   obtain rfl : r = q := by simpa using hq
   obtain rfl : m = m2 := by simpa using hm2
   exact ⟨hx.1.grown hg (h.mapRow hx.1), hx.2.1⟩
 ·rw [List.nodup_append]
  exact ⟨h.nodup, by simp, fun a ha b hb e => by
   obtain rfl := List.mem_singleton.1 hb
   rw [e] at ha
   exact hx.2.2 ha⟩
 ·rcases hA with rfl | rfl
  ·exact (h.bs b hb).2.2
  ·have := (h.bs b hb).2.1.lt
   simp
   omega
 ·refine h.marks.keep fun d hd k hk h0' => (hg.block k (Array.getElem?_eq_some_iff.1 h0').1 (fun e => ?_)).trans h0'
  rcases h.own.form with ⟨e1, _⟩ | ⟨g', cur, e1, _, hbk, _⟩
  ·rw [e1] at e; cases e
  ·rw [e1] at e
   cases e
   unfold Blk at hbk
   rw [hbk] at h0'
   cases h0'
theorem CanMap.len {W : World} {r : Nat} {m : List (D4 × Bool)} (h : CanMap W r m) (ty : TypeId) : (Builtin.len_ #[92] ty #[.map (some r)]).run Try.prog W = .ok (.int .i64 (m.length : Int)) W := by
 obtain ⟨es, clock, hb, hm, _⟩ := h
 have he : es.size = m.length := by have := map_snd_set hm; simpa using this
 simp [Builtin.len_, run_underlying (P := Try.prog) Try.underlying92, MapKept.run_getObj_map hb, goInt, Result.andThen, he]
def TruB (m : Mix) (f : Int) (A : List Held) (j i : Nat) (s : Held) : Prop := if j ≤ i then Truth m f A i s else Fwd m f A i s
def Lead (m : Mix) (f : Int) (A : List Held) (i : Nat) (s : Held) : Prop := ∃ s', Goes m f A i s s' ∧ Truth m f A (i + 1) s'
def LeftP (m : Mix) (f : Int) (A : List Held) (i : Nat) (left : List (D4 × Bool)) (s : Held) : Prop := Fwd m f A i s ∧ ((∃ p ∈ left, p.1.toH = s) ∨ Lead m f A i s)
section
variable {m : Mix} {f : Int} {A : List Held} {i q : Nat} {left mi : List (D4 × Bool)} {y : D4} {v : Bool}
theorem left_start (h : CanIs mi (Fwd m f A i)) : ∀ x : D4, Fwd m f A i x.toH ↔ LeftP m f A i mi x.toH := fun x =>
 ⟨fun hf => ⟨hf, by obtain ⟨v, hv⟩ := (h.keys x).2 hf; exact .inl ⟨_, hv, rfl⟩⟩, fun hf => hf.1⟩
theorem left_end (hi : i < m.acts.length) : ∀ x : D4, LeftP m f A i [] x.toH ↔ Truth m f A i x.toH := fun x => by
 rw [Truth.iff_next hi]
 unfold LeftP Lead
 exact and_congr_right fun _ => ⟨fun h => h.resolve_left (fun ⟨p, hp, _⟩ => by cases hp), .inr⟩
theorem left_ne (hn : (left.map Prod.fst).Nodup) (hp : left[q]? = some (y, v)) : ∀ p ∈ left.eraseIdx q, p.1 ≠ y := by
 have h1 := (perm_erase hp).map Prod.fst
 have h2 := h1.nodup_iff.2 hn
 rw [List.map_cons, List.nodup_cons] at h2
 exact fun p hp2 e => h2.1 (List.mem_map.2 ⟨p, hp2, e⟩)
theorem left_sub (hn : (left.map Prod.fst).Nodup) (hp : left[q]? = some (y, v)) : ((left.eraseIdx q).map Prod.fst).Nodup := by
 have h1 := (perm_erase hp).map Prod.fst
 have h2 := h1.nodup_iff.2 hn
 rw [List.map_cons, List.nodup_cons] at h2
 exact h2.2
theorem left_keep (hp : left[q]? = some (y, v)) (hl : Lead m f A i y.toH) : ∀ x : D4, LeftP m f A i left x.toH ↔ LeftP m f A i (left.eraseIdx q) x.toH := fun x => by
 unfold LeftP
 refine and_congr_right fun _ => ⟨?_, ?_⟩
 ·rintro (⟨p, hm, e⟩ | h)
  ·rcases List.mem_cons.1 ((perm_erase hp).mem_iff.2 hm) with rfl | hm
   ·right
    dsimp only at e
    rw [← e]
    exact hl
   ·exact .inl ⟨p, hm, e⟩
  ·exact .inr h
 ·rintro (⟨p, hm, e⟩ | h)
  ·exact .inl ⟨p, (perm_erase hp).mem_iff.1 (List.mem_cons_of_mem _ hm), e⟩
  ·exact .inr h
theorem left_cut (hn : (left.map Prod.fst).Nodup) (hp : left[q]? = some (y, v)) (hl : ¬ Lead m f A i y.toH) : ∀ x : D4, (LeftP m f A i left x.toH ∧ x.toH ≠ y.toH) ↔ LeftP m f A i (left.eraseIdx q) x.toH := fun x => by
 unfold LeftP
 constructor
 ·rintro ⟨⟨hf, h⟩, hne⟩
  refine ⟨hf, ?_⟩
  rcases h with ⟨p, hm, e⟩ | h
  ·rcases List.mem_cons.1 ((perm_erase hp).mem_iff.2 hm) with rfl | hm
   ·exact absurd e.symm hne
   ·exact .inl ⟨p, hm, e⟩
  ·exact .inr h
 ·rintro ⟨hf, h⟩
  rcases h with ⟨p, hm, e⟩ | h
  ·exact ⟨⟨hf, .inl ⟨p, (perm_erase hp).mem_iff.1 (List.mem_cons_of_mem _ hm), e⟩⟩, fun e2 => left_ne hn hp p hm (toH_inj (e.trans e2))⟩
  ·exact ⟨⟨hf, .inr h⟩, fun e2 => hl (by rw [← e2]; exact h)⟩
end
theorem lead_is {T : Tb} {f : Int} {k : Nat} {x : MAct} {all s : Held} {xs : List (Mv T.m x f all s)} (hA : ActAt T k x all) (h : MvAll xs) {b : Bool} (hb : b = true ↔ ∃ j ∈ xs.map Subtype.val, Truth T.m f T.L (k + 1) (shiftH s (fromI T.m x) (toI T.m x) j)) : b = true ↔ Lead T.m f T.L k s := by
 rw [hb]
 constructor
 ·rintro ⟨j, hj, ht⟩
  obtain ⟨z, hz, rfl⟩ := List.mem_map.1 hj
  exact ⟨_, (goes_at hA).2 ⟨z.1, z.2.1, z.2.2, rfl⟩, ht⟩
 ·rintro ⟨s', hg, ht⟩
  obtain ⟨j, h1, h2, e⟩ := (goes_at hA).1 hg
  obtain ⟨z, hz, rfl⟩ := h j h1 h2
  exact ⟨z.1, List.mem_map.2 ⟨z, hz, rfl⟩, by rw [← e]; exact ht⟩
def boxNat (W : World) (v : Value) : Nat := match v with
 | .pointer (some p) => match W.cell? p with
  | some (.int _ x) => (x + 1).toNat
  | _ => 0
 | _ => 0
theorem set_same {α : Type} {l : List α} {i : Nat} {x : α} (h : l[i]? = some x) : l.set i x = l := by
 apply List.ext_getElem?
 intro j
 by_cases e : i = j
 ·subst e; rw [List.getElem?_set_self (List.getElem?_eq_some_iff.1 h).1, h]
 ·rw [List.getElem?_set_ne e]
theorem IterIs.sub {w : World} {it r : Nat} {m left : List (D4 × Bool)} (h : IterIs D4.key Value.bool okD w it r m left) {p : D4 × Bool} (hp : p ∈ left) : ∃ v, (p.1, v) ∈ m := by
 obtain ⟨es, clock, since, seen, c0, _, hm, _, _, _, _, _, _, hl⟩ := h
 have h1 : (p.1.key, Value.bool p.2) ∈ (leftOf es seen).toList.map (fun e => (e.key, e.val)) := by rw [hl]; exact List.mem_map.2 ⟨p, hp, rfl⟩
 obtain ⟨e, he, e1⟩ := List.mem_map.1 h1
 have he2 : e ∈ es.toList := by
  unfold leftOf at he
  rw [Array.toList_filter] at he
  exact (List.mem_filter.1 he).1
 have h2 : (e.key, e.val) ∈ m.map (fun p => (p.1.key, Value.bool p.2)) := by rw [← hm]; exact List.mem_map.2 ⟨e, he2, rfl⟩
 rw [e1] at h2
 obtain ⟨p2, hp2, e2⟩ := List.mem_map.1 h2
 have e3 : p2.1.key = p.1.key := congrArg Prod.fst e2
 have e4 := canTy.inj _ _ e3
 exact ⟨p2.2, by rw [← e4]; exact hp2⟩
theorem boxNat_of {W : World} {b : Nat} {k : IntKind} {x : Int} (h : W.cell? ⟨b, 0, none⟩ = some (.int k x)) : boxNat W (.pointer (some ⟨b, 0, none⟩)) = (x + 1).toNat := by
 unfold boxNat
 dsimp only
 rw [h]
set_option maxRecDepth 100000
inductive FrF (v0 v1 v6 v7 v13 v15 v17 : Value) (ds : List Deferred) : Act → Prop
 | mk (u2 u3 u4 u5 u8 u9 u10 u11 u12 u14 u16 u18 u19 u20 u21 u22 u23 u24 u25 u26 u27 u28 u29 u30 u31 u32 u33 u34 u35 u36 u37 u38 u39 u40 u41 u42 u43 u44 u45 u46 u47 u48 u49 u50 u51 u52 u53 u54 u55 u56 u57 u58 u59 u60 u61 u62 u63 u64 u65 u66 u67 u68 u69 u70 u71 u72 u73 u74 u75 u76 u77 u78 u79 u80 u81 u82 u83 u84 u85 u86 u87 u88 u89 u90 u91 u92 u93 u94 u95 u96 u97 u98 u99 u100 u101 u102 u103 u104 u105 u106 u107 u108 u109 u110 u111 u112 u113 u114 u115 u116 u117 u118 u119 u120 u121 u122 u123 u124 u125 u126 u127 u128 u129 u130 u131 u132 u133 u134 u135 u136 u137 u138 u139 u140 u141 u142 u143 u144 u145 : Value) : FrF v0 v1 v6 v7 v13 v15 v17 ds { tmps := #[v0, v1, u2, u3, u4, u5, v6, v7, u8, u9, u10, u11, u12, v13, u14, v15, u16, v17, u18, u19, u20, u21, u22, u23, u24, u25, u26, u27, u28, u29, u30, u31, u32, u33, u34, u35, u36, u37, u38, u39, u40, u41, u42, u43, u44, u45, u46, u47, u48, u49, u50, u51, u52, u53, u54, u55, u56, u57, u58, u59, u60, u61, u62, u63, u64, u65, u66, u67, u68, u69, u70, u71, u72, u73, u74, u75, u76, u77, u78, u79, u80, u81, u82, u83, u84, u85, u86, u87, u88, u89, u90, u91, u92, u93, u94, u95, u96, u97, u98, u99, u100, u101, u102, u103, u104, u105, u106, u107, u108, u109, u110, u111, u112, u113, u114, u115, u116, u117, u118, u119, u120, u121, u122, u123, u124, u125, u126, u127, u128, u129, u130, u131, u132, u133, u134, u135, u136, u137, u138, u139, u140, u141, u142, u143, u144, u145], defers := ds }
inductive FrC (v0 v1 v6 v7 v8 v9 v12 : Value) (ds : List Deferred) : Act → Prop
 | mk (u2 u3 u4 u5 u10 u11 u13 u14 u15 u16 u17 u18 u19 u20 u21 u22 u23 u24 u25 u26 u27 u28 u29 u30 u31 u32 u33 u34 u35 u36 u37 u38 u39 u40 u41 u42 u43 u44 u45 u46 u47 u48 u49 u50 u51 u52 u53 u54 u55 u56 u57 u58 u59 u60 u61 u62 u63 u64 u65 u66 u67 u68 u69 u70 u71 u72 u73 u74 u75 u76 u77 u78 u79 u80 u81 u82 u83 u84 u85 u86 u87 u88 u89 u90 u91 u92 u93 u94 u95 u96 u97 u98 u99 u100 u101 u102 u103 u104 u105 u106 u107 u108 u109 u110 u111 u112 u113 u114 u115 u116 u117 u118 u119 u120 u121 u122 u123 u124 u125 u126 u127 u128 u129 u130 u131 u132 u133 u134 u135 u136 u137 u138 u139 u140 u141 u142 u143 u144 u145 : Value) : FrC v0 v1 v6 v7 v8 v9 v12 ds { tmps := #[v0, v1, u2, u3, u4, u5, v6, v7, v8, v9, u10, u11, v12, u13, u14, u15, u16, u17, u18, u19, u20, u21, u22, u23, u24, u25, u26, u27, u28, u29, u30, u31, u32, u33, u34, u35, u36, u37, u38, u39, u40, u41, u42, u43, u44, u45, u46, u47, u48, u49, u50, u51, u52, u53, u54, u55, u56, u57, u58, u59, u60, u61, u62, u63, u64, u65, u66, u67, u68, u69, u70, u71, u72, u73, u74, u75, u76, u77, u78, u79, u80, u81, u82, u83, u84, u85, u86, u87, u88, u89, u90, u91, u92, u93, u94, u95, u96, u97, u98, u99, u100, u101, u102, u103, u104, u105, u106, u107, u108, u109, u110, u111, u112, u113, u114, u115, u116, u117, u118, u119, u120, u121, u122, u123, u124, u125, u126, u127, u128, u129, u130, u131, u132, u133, u134, u135, u136, u137, u138, u139, u140, u141, u142, u143, u144, u145], defers := ds }
inductive FrA (v0 v1 v6 v7 v41 v42 : Value) (ds : List Deferred) : Act → Prop
 | mk (u2 u3 u4 u5 u8 u9 u10 u11 u12 u13 u14 u15 u16 u17 u18 u19 u20 u21 u22 u23 u24 u25 u26 u27 u28 u29 u30 u31 u32 u33 u34 u35 u36 u37 u38 u39 u40 u43 u44 u45 u46 u47 u48 u49 u50 u51 u52 u53 u54 u55 u56 u57 u58 u59 u60 u61 u62 u63 u64 u65 u66 u67 u68 u69 u70 u71 u72 u73 u74 u75 u76 u77 u78 u79 u80 u81 u82 u83 u84 u85 u86 u87 u88 u89 u90 u91 u92 u93 u94 u95 u96 u97 u98 u99 u100 u101 u102 u103 u104 u105 u106 u107 u108 u109 u110 u111 u112 u113 u114 u115 u116 u117 u118 u119 u120 u121 u122 u123 u124 u125 u126 u127 u128 u129 u130 u131 u132 u133 u134 u135 u136 u137 u138 u139 u140 u141 u142 u143 u144 u145 : Value) : FrA v0 v1 v6 v7 v41 v42 ds { tmps := #[v0, v1, u2, u3, u4, u5, v6, v7, u8, u9, u10, u11, u12, u13, u14, u15, u16, u17, u18, u19, u20, u21, u22, u23, u24, u25, u26, u27, u28, u29, u30, u31, u32, u33, u34, u35, u36, u37, u38, u39, u40, v41, v42, u43, u44, u45, u46, u47, u48, u49, u50, u51, u52, u53, u54, u55, u56, u57, u58, u59, u60, u61, u62, u63, u64, u65, u66, u67, u68, u69, u70, u71, u72, u73, u74, u75, u76, u77, u78, u79, u80, u81, u82, u83, u84, u85, u86, u87, u88, u89, u90, u91, u92, u93, u94, u95, u96, u97, u98, u99, u100, u101, u102, u103, u104, u105, u106, u107, u108, u109, u110, u111, u112, u113, u114, u115, u116, u117, u118, u119, u120, u121, u122, u123, u124, u125, u126, u127, u128, u129, u130, u131, u132, u133, u134, u135, u136, u137, u138, u139, u140, u141, u142, u143, u144, u145], defers := ds }
inductive FrB (v0 v1 v6 v7 v8 v9 v41 v42 v53 : Value) (ds : List Deferred) : Act → Prop
 | mk (u2 u3 u4 u5 u10 u11 u12 u13 u14 u15 u16 u17 u18 u19 u20 u21 u22 u23 u24 u25 u26 u27 u28 u29 u30 u31 u32 u33 u34 u35 u36 u37 u38 u39 u40 u43 u44 u45 u46 u47 u48 u49 u50 u51 u52 u54 u55 u56 u57 u58 u59 u60 u61 u62 u63 u64 u65 u66 u67 u68 u69 u70 u71 u72 u73 u74 u75 u76 u77 u78 u79 u80 u81 u82 u83 u84 u85 u86 u87 u88 u89 u90 u91 u92 u93 u94 u95 u96 u97 u98 u99 u100 u101 u102 u103 u104 u105 u106 u107 u108 u109 u110 u111 u112 u113 u114 u115 u116 u117 u118 u119 u120 u121 u122 u123 u124 u125 u126 u127 u128 u129 u130 u131 u132 u133 u134 u135 u136 u137 u138 u139 u140 u141 u142 u143 u144 u145 : Value) : FrB v0 v1 v6 v7 v8 v9 v41 v42 v53 ds { tmps := #[v0, v1, u2, u3, u4, u5, v6, v7, v8, v9, u10, u11, u12, u13, u14, u15, u16, u17, u18, u19, u20, u21, u22, u23, u24, u25, u26, u27, u28, u29, u30, u31, u32, u33, u34, u35, u36, u37, u38, u39, u40, v41, v42, u43, u44, u45, u46, u47, u48, u49, u50, u51, u52, v53, u54, u55, u56, u57, u58, u59, u60, u61, u62, u63, u64, u65, u66, u67, u68, u69, u70, u71, u72, u73, u74, u75, u76, u77, u78, u79, u80, u81, u82, u83, u84, u85, u86, u87, u88, u89, u90, u91, u92, u93, u94, u95, u96, u97, u98, u99, u100, u101, u102, u103, u104, u105, u106, u107, u108, u109, u110, u111, u112, u113, u114, u115, u116, u117, u118, u119, u120, u121, u122, u123, u124, u125, u126, u127, u128, u129, u130, u131, u132, u133, u134, u135, u136, u137, u138, u139, u140, u141, u142, u143, u144, u145], defers := ds }
inductive FrD (v0 v1 v6 v7 v13 : Value) (ds : List Deferred) : Act → Prop
 | mk (u2 u3 u4 u5 u8 u9 u10 u11 u12 u14 u15 u16 u17 u18 u19 u20 u21 u22 u23 u24 u25 u26 u27 u28 u29 u30 u31 u32 u33 u34 u35 u36 u37 u38 u39 u40 u41 u42 u43 u44 u45 u46 u47 u48 u49 u50 u51 u52 u53 u54 u55 u56 u57 u58 u59 u60 u61 u62 u63 u64 u65 u66 u67 u68 u69 u70 u71 u72 u73 u74 u75 u76 u77 u78 u79 u80 u81 u82 u83 u84 u85 u86 u87 u88 u89 u90 u91 u92 u93 u94 u95 u96 u97 u98 u99 u100 u101 u102 u103 u104 u105 u106 u107 u108 u109 u110 u111 u112 u113 u114 u115 u116 u117 u118 u119 u120 u121 u122 u123 u124 u125 u126 u127 u128 u129 u130 u131 u132 u133 u134 u135 u136 u137 u138 u139 u140 u141 u142 u143 u144 u145 : Value) : FrD v0 v1 v6 v7 v13 ds { tmps := #[v0, v1, u2, u3, u4, u5, v6, v7, u8, u9, u10, u11, u12, v13, u14, u15, u16, u17, u18, u19, u20, u21, u22, u23, u24, u25, u26, u27, u28, u29, u30, u31, u32, u33, u34, u35, u36, u37, u38, u39, u40, u41, u42, u43, u44, u45, u46, u47, u48, u49, u50, u51, u52, u53, u54, u55, u56, u57, u58, u59, u60, u61, u62, u63, u64, u65, u66, u67, u68, u69, u70, u71, u72, u73, u74, u75, u76, u77, u78, u79, u80, u81, u82, u83, u84, u85, u86, u87, u88, u89, u90, u91, u92, u93, u94, u95, u96, u97, u98, u99, u100, u101, u102, u103, u104, u105, u106, u107, u108, u109, u110, u111, u112, u113, u114, u115, u116, u117, u118, u119, u120, u121, u122, u123, u124, u125, u126, u127, u128, u129, u130, u131, u132, u133, u134, u135, u136, u137, u138, u139, u140, u141, u142, u143, u144, u145], defers := ds }
inductive FrE (v0 v1 v6 v7 v13 v101 : Value) (ds : List Deferred) : Act → Prop
 | mk (u2 u3 u4 u5 u8 u9 u10 u11 u12 u14 u15 u16 u17 u18 u19 u20 u21 u22 u23 u24 u25 u26 u27 u28 u29 u30 u31 u32 u33 u34 u35 u36 u37 u38 u39 u40 u41 u42 u43 u44 u45 u46 u47 u48 u49 u50 u51 u52 u53 u54 u55 u56 u57 u58 u59 u60 u61 u62 u63 u64 u65 u66 u67 u68 u69 u70 u71 u72 u73 u74 u75 u76 u77 u78 u79 u80 u81 u82 u83 u84 u85 u86 u87 u88 u89 u90 u91 u92 u93 u94 u95 u96 u97 u98 u99 u100 u102 u103 u104 u105 u106 u107 u108 u109 u110 u111 u112 u113 u114 u115 u116 u117 u118 u119 u120 u121 u122 u123 u124 u125 u126 u127 u128 u129 u130 u131 u132 u133 u134 u135 u136 u137 u138 u139 u140 u141 u142 u143 u144 u145 : Value) : FrE v0 v1 v6 v7 v13 v101 ds { tmps := #[v0, v1, u2, u3, u4, u5, v6, v7, u8, u9, u10, u11, u12, v13, u14, u15, u16, u17, u18, u19, u20, u21, u22, u23, u24, u25, u26, u27, u28, u29, u30, u31, u32, u33, u34, u35, u36, u37, u38, u39, u40, u41, u42, u43, u44, u45, u46, u47, u48, u49, u50, u51, u52, u53, u54, u55, u56, u57, u58, u59, u60, u61, u62, u63, u64, u65, u66, u67, u68, u69, u70, u71, u72, u73, u74, u75, u76, u77, u78, u79, u80, u81, u82, u83, u84, u85, u86, u87, u88, u89, u90, u91, u92, u93, u94, u95, u96, u97, u98, u99, u100, v101, u102, u103, u104, u105, u106, u107, u108, u109, u110, u111, u112, u113, u114, u115, u116, u117, u118, u119, u120, u121, u122, u123, u124, u125, u126, u127, u128, u129, u130, u131, u132, u133, u134, u135, u136, u137, u138, u139, u140, u141, u142, u143, u144, u145], defers := ds }

set_option maxRecDepth 100000 in
set_option maxHeartbeats 16000000 in
theorem told_in (T : Tb) (f : Int) (w : World) (hT : TbAt w T) (hok : TbOk T) :
  CallsIn Fence.wide 9 Try.prog 41 #[.pointer (some ⟨T.g, 0, none⟩), .int .i64 f] w (ToldOut w T f) := by
 have hmf : ∀ (fn : Fn) (first cap : Array Value) (w : World), (Instr.makeFunc fn first cap).run Try.prog w = .ok (.func fn first cap) w := fun _ _ _ _ => rfl
 have hmm := @run_makeMap Try.prog
 have HT := Lib.hid hT
 have HOK := Lib.hid hok
 clear hT hok
 refine callsIn_of_wp_marks Try.func41 rfl trivial ?_ rfl
 simp only [Try.ntmps41, List.size_toArray, List.length_cons, List.length_nil, Nat.reduceAdd, Nat.reduceSub, Array.replicate_succ, Array.replicate_zero, List.push_toArray, List.append_toArray, List.nil_append, List.cons_append]
 gi_wp2
 have HS := Lib.hid (told_start w T f)
 generalize (((((w.alloc (.map #[] 0)).alloc (.cells #[.map (some w.heap.size)] 92)).alloc (.cells #[.pointer (some ⟨T.g, 0, none⟩), .int .i64 f, .slice (some ⟨w.heap.size + 1, 0, none⟩) 1 1] 95)).alloc (.cells #[.pointer (some ⟨w.heap.size + 1 + 1, 0, none⟩)] 86)).alloc (.cells #[.func (.func 86) #[.pointer (some ⟨w.heap.size + 1 + 1, 0, none⟩)] #[]] 154)) = W0 at *
 refine ⟨trivial, (callsIn_wide.2 (callsIn_wide.1 (tastes_in T f (some ⟨w.heap.size + 1, 0, none⟩) 1 1 0 zeroH (w.heap.size + 1 + 1) W0 (HT.out.below HS.out.bel) (HS.out.blk 0 rfl) HOK.out))).mono ?_⟩
 rintro e W1 ⟨rfl, hb⟩
 replace HS := Lib.hid (HS.out.below hb)
 clear hb
 have e0 : (!T.m.tastes.any (tasteB T.m f 0 zeroH)) = tastedB T.m f 0 zeroH := (tasted_any T.m f 0 zeroH).symm
 rw [e0]
 clear e0
 obtain ⟨b0, hb0⟩ : ∃ b0, tastedB T.m f 0 zeroH = b0 := ⟨_, rfl⟩
 rw [hb0]
 have HB0 := Lib.hid hb0
 clear hb0
 gi_upto_if 28 with fail
 gi_cut [] from 18 (fun wx => Hid (∃ m0, TS w (some ⟨w.heap.size + 1, 0, none⟩) 1 1 [w.heap.size] [m0] [(w.heap.size + 1 + 1, 95, trC T f (some ⟨w.heap.size + 1, 0, none⟩) 1 1), (w.heap.size + 1 + 1 + 1, 86, #[.pointer (some ⟨w.heap.size + 1 + 1, 0, none⟩)]), (w.heap.size + 1 + 1 + 1 + 1, 154, #[.func (.func 86) #[.pointer (some ⟨w.heap.size + 1 + 1, 0, none⟩)] #[]])] [] [] wx ∧ CanIs m0 (Fwd T.m f T.L 0)))
 case first =>
  cases b0 with
  | false =>
   gi_wp2
   gi_meet
   exact Lib.hid ⟨[], HS.out, CanIs.nil.congr fun x => ⟨fun h => h.elim, fun h => by have := (fwd_zero HB0.out x).2 h; exact absurd this.1 (by decide)⟩⟩
  | true =>
   obtain ⟨w9, hup, hm9, hg9, hs9⟩ := (HS.out.maps 0 _ _ rfl rfl).1.update (P := Try.prog) canTy (x := ⟨0, 0, 0, 0⟩) ⟨okZ_of (by decide) (by decide), okZ_of (by decide) (by decide), okZ_of (by decide) (by decide), okZ_of (by decide) (by decide)⟩ true
   have HS9 := Lib.hid (HS.out.setMap (i := 0) rfl rfl hg9 hm9)
   simp only [D4.key] at hup
   have q0 := (HS.out.blk 0 rfl).cell 2
   have q1 := (HS.out.blk 1 rfl).cell 0
   obtain ⟨gq, hgq, q2, ql, _⟩ := can_cell (i := 0) HS.out.own rfl
   obtain rfl : w.heap.size + 1 = gq := by simpa using hgq
   have l0 := (HS.out.blk 0 rfl).lt
   have l1 := (HS.out.blk 1 rfl).lt
   unfold trC at q0
   clear hm9 hg9 hs9
   gi_wp2
   gi_meet
   exact Lib.hid ⟨_, HS9.out, (CanIs.nil.put ⟨0, 0, 0, 0⟩).congr fun x => by
    rw [← fwd_zero HB0.out x]
    constructor
    ·rintro (h | h)
     ·exact h.elim
     ·exact ⟨rfl, h⟩
    ·rintro ⟨_, h⟩; exact .inr h⟩
 case rest =>
  obtain ⟨m0, HS, HC⟩ := hcut.out
  clear hcut
  rename World => C1
  have t2 := (HT.out.below HS.bel).blk.cell 2
  have tl := (HT.out.below HS.bel).blk.lt
  have HS1 := Lib.hid HS
  have HC1 := Lib.hid HC
  unfold Tb.cells at t2
  clear HS HC
  gi_wp2
  clear t2 tl
  refine wpIn_loop (fun a W => ∃ (k : Nat) (A : Option Addr) (c : Nat) (rs : List Nat) (ms : List (List (D4 × Bool))) (ds : List Deferred), Hid (k ≤ T.na ∧ TS w A (k + 1) c rs ms [(w.heap.size + 1 + 1, 95, trC T f A (k + 1) c), (w.heap.size + 1 + 1 + 1, 86, #[.pointer (some ⟨w.heap.size + 1 + 1, 0, none⟩)]), (w.heap.size + 1 + 1 + 1 + 1, 154, #[.func (.func 86) #[.pointer (some ⟨w.heap.size + 1 + 1, 0, none⟩)] #[]])] [] ds W ∧ ∀ (i : Nat) (m : List (D4 × Bool)), ms[i]? = some m → CanIs m (Fwd T.m f T.L i)) ∧ FrA (.pointer (some ⟨T.g, 0, none⟩)) (.int .i64 f) (.pointer (some ⟨w.heap.size + 1 + 1 + 1, 0, none⟩)) (.pointer (some ⟨w.heap.size + 1 + 1 + 1 + 1, 0, none⟩)) (.int .i64 T.na) (.int .i64 k) ds a)
   (fun _ W => T.na + 1 - sliceLen W (w.heap.size + 1 + 1) 2) ?_ ?_
  ·exact ⟨0, _, 1, _, [m0], [], Lib.hid ⟨by omega, HS1.out, fun i m hi => by
    have h0 : i = 0 := by have := (List.getElem?_eq_some_iff.1 hi).1; simpa using this
    subst h0
    obtain rfl : m0 = m := by simpa using hi
    exact HC1.out⟩, by constructor⟩
  rintro a W ⟨k, A, c, rs, ms, ds, HA0, ha⟩
  cases ha
  clear HS1 HC1
  by_cases hlt : k < T.na
  ·
   obtain ⟨x, hx⟩ : ∃ x, T.m.acts[k]? = some x := ⟨_, List.getElem?_eq_getElem (by have := HT.out.mix.lenA; omega)⟩
   obtain ⟨all, hA⟩ := HOK.out.at_ hx
   have HAT := Lib.hid hA
   have HLT := Lib.hid hlt
   clear hx hA
   gi_wp2
   have HSL : Hid (sliceLen W (w.heap.size + 1 + 1) 2 = k + 1) := Lib.hid (by have h := (HA0.out.2.1.blk 0 rfl).cell 2; unfold trC at h; unfold sliceLen; rw [h]; rfl)
   have hT1 := HA0.out.2.1.round k
   have HA1 : Hid (w.heap.size ≤ (((W.alloc (.cells #[.int .i64 k] 3)).alloc (.map #[] 0)).alloc (.cells #[.map (some (W.heap.size + 1))] 92)).heap.size) := Lib.hid (hT1.bel.size)
   have HF0 := Lib.hid HA0.out.2.2
   have HKL : Hid (k ≤ T.na) := Lib.hid HA0.out.1
   clear HA0
   generalize ((W.alloc (.cells #[.int .i64 k] 3)).alloc (.map #[] 0)).alloc (.cells #[.map (some (W.heap.size + 1))] 92) = W2 at *
   obtain ⟨B8, hB8⟩ : ∃ b, W.heap.size = b := ⟨_, rfl⟩
   rw [hB8] at hT1 ⊢
   have HS := Lib.hid hT1
   clear hT1 hB8
   obtain ⟨rk, hrk⟩ : ∃ r, rs[k]? = some r := ⟨_, List.getElem?_eq_getElem (by have := HS.out.mlen; omega)⟩
   obtain ⟨mk, hmk⟩ : ∃ m, ms[k]? = some m := ⟨_, List.getElem?_eq_getElem (by have := HS.out.len; omega)⟩
   have HRK := Lib.hid hrk
   have HMK := Lib.hid hmk
   obtain ⟨g, rfl, qg, lg, hkn⟩ := can_cell HS.out.own hrk
   obtain ⟨w1, hr1, hi1, hg1, hs1⟩ := MapIs.range (P := Try.prog) (t := 92) Try.underlying92 (show CanMap W2.drew rk mk from (HS.out.maps k rk mk hrk hmk).1)
   have q0 := (HS.out.blk 0 rfl).cell 2
   have q1 := (HS.out.blk 1 rfl).cell 0
   have q8 := (HS.out.blk 3 rfl).cell 0
   have l0 := (HS.out.blk 0 rfl).lt
   have l1 := (HS.out.blk 1 rfl).lt
   have l8 := (HS.out.blk 3 rfl).lt
   unfold trC at q0
   clear hrk hmk
   gi_region
   clear q0 q1 q8 l0 l1 l8 hr1 qg lg hkn
   have hb1 : Below W2.heap.size W2 w1 := (below_drewN (Below.refl W2.heap.size W2) 1).grown hg1 (Nat.le_refl _) (fun k e => by cases e)
   replace HS := Lib.hid (HS.out.below hb1)
   have hge : w.heap.size ≤ W2.heap.size := Nat.le_trans (HA1.out) (Nat.le_refl _)
   replace hi1 : IterIs D4.key Value.bool okD w1 W2.heap.size rk mk mk := hi1
   obtain ⟨it, hit⟩ : ∃ i, W2.heap.size = i := ⟨_, rfl⟩
   rw [hit] at hi1 hge ⊢
   have HI := Lib.hid hi1
   have HGE := Lib.hid hge
   clear hi1 hg1 hs1 hit hge hb1
   gi_wp2
   refine wpIn_loop (fun a W => ∃ (left : List (D4 × Bool)) (vis : List D4) (m9 : List (D4 × Bool)) (ds : List Deferred), Hid (TS w (some ⟨g, 0, none⟩) (k + 1) c rs ms [(w.heap.size + 1 + 1, 95, trC T f (some ⟨g, 0, none⟩) (k + 1) c), (w.heap.size + 1 + 1 + 1, 86, #[.pointer (some ⟨w.heap.size + 1 + 1, 0, none⟩)]), (w.heap.size + 1 + 1 + 1 + 1, 154, #[.func (.func 86) #[.pointer (some ⟨w.heap.size + 1 + 1, 0, none⟩)] #[]]), (B8, 3, #[.int .i64 (k : Int)]), (B8 + 1 + 1, 92, #[.map (some (B8 + 1))])] [(B8 + 1, m9)] ds W ∧ IterIs D4.key Value.bool okD W it rk mk left ∧ (vis ++ left.map Prod.fst).Perm (mk.map Prod.fst) ∧ CanIs m9 (NextP T.m f T.L k vis)) ∧ FrB (.pointer (some ⟨T.g, 0, none⟩)) (.int .i64 f) (.pointer (some ⟨w.heap.size + 1 + 1 + 1, 0, none⟩)) (.pointer (some ⟨w.heap.size + 1 + 1 + 1 + 1, 0, none⟩)) (.pointer (some ⟨B8, 0, none⟩)) (.pointer (some ⟨B8 + 1 + 1, 0, none⟩)) (.int .i64 T.na) (.int .i64 k) (.pointer (some ⟨it, 0, none⟩)) ds a)
    (fun _ W => iterLeft W it) ?_ ?_
   ·exact ⟨mk, [], [], ds, Lib.hid ⟨HS.out, HI.out, by simp, CanIs.nil.congr fun x => ⟨fun h => h.elim, fun h => by obtain ⟨⟨y, hy, _⟩, _⟩ := h; cases hy⟩⟩, by constructor⟩
   clear HS HI ds
   rintro a W ⟨left, vis, m9, ds, HB0, ha⟩
   cases ha
   rcases HB0.out.2.1.next (P := Try.prog) 0 with ⟨hl, hr⟩ | ⟨i, ⟨y, v⟩, w2, hp, hr, hi2, hg2, hs2, he2⟩
   ·
    subst hl
    have HFW : Hid (∀ (i : Nat) (m : List (D4 × Bool)), (ms ++ [m9])[i]? = some m → CanIs m (Fwd T.m f T.L i)) := Lib.hid (fun i m him => by
     have hlm := HB0.out.1.len
     by_cases hi : i < k + 1
     ·rw [List.getElem?_append_left (by omega)] at him
      exact HF0.out i m him
     ·rw [List.getElem?_append_right (by omega)] at him
      have h0 : i - ms.length = 0 := by have := (List.getElem?_eq_some_iff.1 him).1; simp at this; omega
      rw [h0] at him
      obtain rfl : m9 = m := by simpa using him
      obtain rfl : i = k + 1 := by omega
      exact HB0.out.2.2.2.congr (next_end HOK.out HAT.out (by simpa using HB0.out.2.2.1) (HF0.out k mk HMK.out)))
    have HS := Lib.hid HB0.out.1
    have hsmall : k ≤ 12 := by have := HLT.out; have := HT.out.small; omega
    have HSM := Lib.hid hsmall
    clear HB0 hsmall
    gi_wp2
    clear hr
    refine Gr.wpIn_flow_old (G := UpRow (some g)) [([true, true, true, true, true, true], 6), ([], 7)] [false, false, false, false, false, false, false, false, true, true] [false, false, false, false, false, false, false, false, false, false, true] (by kernel_rfl) (by kernel_rfl) (by kernel_rfl) (below_drewN (Below.refl _ _) 1) ?_
    refine Gr.wpFlow_cons (A := ?AFu) rfl ?hqu ?_
    case hqu =>
     rintro σ hσ of hof hcl
     have HOF : Hid (∀ z, W.grownBy (of z) (some g)) := Lib.hid hof
     clear hof hcl
     have q0 : ∀ z, (of z).cell? ⟨w.heap.size + 1 + 1, 2, none⟩ = some (.slice (some ⟨g, 0, none⟩) (k + 1) c) := fun z => ((HS.out.blk 0 rfl).grown (HOF.out z) (HS.out.bs (_, _, _) (List.mem_of_getElem? (i := 0) rfl)).2.2).cell 2
     have q1 : ∀ z, (of z).cell? ⟨w.heap.size + 1 + 1 + 1, 0, none⟩ = some (.pointer (some ⟨w.heap.size + 1 + 1, 0, none⟩)) := fun z => ((HS.out.blk 1 rfl).grown (HOF.out z) (HS.out.bs (_, _, _) (List.mem_of_getElem? (i := 1) rfl)).2.2).cell 0
     have q9 : ∀ z, (of z).cell? ⟨B8 + 1 + 1, 0, none⟩ = some (.map (some (B8 + 1))) := fun z => ((HS.out.blk 4 rfl).grown (HOF.out z) (HS.out.bs (_, _, _) (List.mem_of_getElem? (i := 4) rfl)).2.2).cell 0
     simp only [pickB]
     repeat (gi_big_quiet_step (fail))
     refine wpQuietIn_nil ?_
     exact rfl
    intro V1 hW
    have hS1 := HS.out.below hW
    clear hW
    gi_wp2
    have hb : Below V1.heap.size V1 (V1.alloc (.cells #[.map (some (B8 + 1))] 92)) := (Below.refl _ _).alloc (Nat.le_refl _) _
    refine ⟨trivial, grown_of_below hb _, ?_⟩
    have hS2 := hS1.below hb
    have hPl := reads_new (k := 1) (n := 1) V1 92 [.map (some (B8 + 1))] rfl
    replace hPl : Reads (V1.alloc (.cells #[.map (some (B8 + 1))] 92)) (V1.alloc (.cells #[.map (some (B8 + 1))] 92)).heap.size 1 (some ⟨V1.heap.size, 0, none⟩) 1 [.map (some (B8 + 1))] := hPl
    obtain ⟨V2, hV2⟩ : ∃ V2, (V1.alloc (.cells #[.map (some (B8 + 1))] 92)) = V2 := ⟨_, rfl⟩
    rw [hV2] at hPl hS2 ⊢
    clear hS1 hb hV2
    refine Gr.wpFlow_cons rfl Gr.Quietly.none ?_
    intro V3 hW
    have HS3 := Lib.hid (hS2.below hW)
    have HPl := Lib.hid ((hPl.below hW).more hW.size)
    clear hW hS2 hPl
    have HO9 := Lib.hid HS3.out.own
    have hbz := HS3.out.bel.size
    have hcv : ∀ u ∈ [Value.map (some (B8 + 1))], u.oneCell' = true := fun u hu => by obtain rfl := List.mem_singleton.1 hu; rfl
    gi_wp2_with (first | (gi_at_builtin; refine wpListIn_append_any rfl (.tmp 76) (.tmp 78) (by rfl) elem_can rfl HO9.out rfl HPl.out hcv (by have := HSM.out; unfold maxLen; omega) (by have := HSM.out; omega) hbz ?_) | fail)
    rintro A9 c9 V4 hown hg hA
    have HP4 := Lib.hid (HS3.out.push hg hown hA)
    have HG4 : Hid (V3.grownBy V4 (some g)) := Lib.hid hg
    clear hown hg hA hcv hbz HPl HO9
    gi_wp2
    refine ⟨trivial, HG4.out, ?_⟩
    refine Gr.wpFlow_nil (A := ?AFv) ?hqv ?_
    case hqv =>
     rintro σ hσ of hof hcl
     clear hof hcl
     simp only [pickB]
     repeat (gi_big_quiet_step (fail))
     refine wpQuietIn_nil ?_
     exact rfl
    intro V5 hW
    have HP5 := Lib.hid (HP4.out.below hW)
    clear hW HP4
    have z2 := (HP5.out.blk 0 rfl).frozen 2
    have y2 := (HP5.out.blk 0 rfl).cell 2
    have tl := (HP5.out.blk 0 rfl).lt
    unfold trC at y2
    simp only [pickB]
    have hk12 := HSM.out
    refine wpT_cons ?_
    gi_wp2
    refine wpT_nil ?_
    gi_wp2
    have hgs := grown_setCell (row := some (w.heap.size + 1 + 1)) (grown_refl V5 _) (p := ⟨w.heap.size + 1 + 1, 2, none⟩) (.inl rfl) (.slice A9 (k + 1 + 1) c9)
    have hbn : Blk (V5.setCell ⟨w.heap.size + 1 + 1, 2, none⟩ (.slice A9 (k + 1 + 1) c9)) (w.heap.size + 1 + 1) 95 (trC T f A9 (k + 1 + 1) c9) := (HP5.out.blk 0 rfl).set_ 2 _
    have HT9 := HP5.out.setBox (bs' := [(w.heap.size + 1 + 1, 95, trC T f A9 (k + 1 + 1) c9), (w.heap.size + 1 + 1 + 1, 86, #[.pointer (some ⟨w.heap.size + 1 + 1, 0, none⟩)]), (w.heap.size + 1 + 1 + 1 + 1, 154, #[.func (.func 86) #[.pointer (some ⟨w.heap.size + 1 + 1, 0, none⟩)] #[]])]) (List.mem_of_getElem? (i := 0) rfl) hgs hbn (fun b hb => by
     simp only [List.mem_cons, List.not_mem_nil, or_false] at hb
     rcases hb with rfl | rfl | rfl
     ·exact .inr rfl
     ·exact .inl ⟨by simp, by dsimp only; omega⟩
     ·exact .inl ⟨by simp, by dsimp only; omega⟩)
    refine ⟨⟨k + 1, A9, c9, _, _, _, Lib.hid ⟨HLT.out, HT9, HFW.out⟩, by rw [show ((k + 1 : Nat) : Int) = (k : Int) + 1 from by omega]; constructor⟩, ?_⟩
    have h9 := hbn.cell 2
    have h8 := HSL.out
    have h7 := HLT.out
    unfold trC at h9
    unfold sliceLen at h8 ⊢
    rw [h8, h9]
    simp
    omega
   ·
    have hym : y ∈ mk.map Prod.fst := HB0.out.2.2.1.mem_iff.1 (List.mem_append_right _ (List.mem_map.2 ⟨_, List.mem_of_getElem? hp, rfl⟩))
    obtain ⟨pm, hpm, hpy⟩ := List.mem_map.1 hym
    have hfwd : Fwd T.m f T.L k y.toH := (((HF0.out k mk HMK.out).keys y).1 ⟨pm.2, by rw [← hpy]; exact hpm⟩)
    have hfit : Fits all y.toH := fwd_fits HOK.out.all HOK.out.vess hfwd HAT.out.ha
    obtain ⟨x1, x2, x3, x4, ho⟩ := IterIs.obj HB0.out.2.1
    have hT2 := HB0.out.1.iter ho HGE.out hg2
    have HP2 := Lib.hid HB0.out.2.2.1
    have HC9 := Lib.hid HB0.out.2.2.2
    have HLW := Lib.hid (HB0.out.2.1.left_eq)
    clear hym hpm hpy pm hfwd ho HB0
    obtain ⟨s, hs⟩ : ∃ s, y.toH = s := ⟨_, rfl⟩
    replace hr : (Instr.next (.pointer (some ⟨it, 0, none⟩)) false 0).run Try.prog W = .ok (.tuple #[.bool true, .agg #[.int .i64 (heldAt s 0), .int .i64 (heldAt s 1), .int .i64 (heldAt s 2), .int .i64 (heldAt s 3)], .bool v]) w2 := by rw [← hs]; exact hr
    replace he2 : (Instr.entry (.pointer (some ⟨it, 0, none⟩))).run Try.prog w2 = .ok (.tuple #[.agg #[.int .i64 (heldAt s 0), .int .i64 (heldAt s 1), .int .i64 (heldAt s 2), .int .i64 (heldAt s 3)], .bool v]) w2 := by rw [← hs]; exact he2
    rw [hs] at hfit
    have HSY := Lib.hid hs
    have HFI := Lib.hid hfit
    have HI2 := Lib.hid hi2
    have HS2 := Lib.hid hT2
    have HP := Lib.hid hp
    clear hs hfit hi2 hT2 hp hg2 hs2
    have b8l := (HS2.out.blk 3 rfl).lt
    have b8c := (HS2.out.blk 3 rfl).cell 0
    gi_wp2
    have hb3 : Below w2.heap.size w2 (w2.alloc (.cells #[.int .i64 (heldAt s 0), .int .i64 (heldAt s 1), .int .i64 (heldAt s 2), .int .i64 (heldAt s 3)] 97)) := (Below.refl _ _).alloc (Nat.le_refl _) _
    have hS3 := HS2.out.below hb3
    have hI3 := HI2.out.below hb3 HI2.out.map.lt HI2.out.lt
    generalize (w2.alloc (.cells #[.int .i64 (heldAt s 0), .int .i64 (heldAt s 1), .int .i64 (heldAt s 2), .int .i64 (heldAt s 3)] 97)) = w3 at *
    refine ⟨trivial, (callsIn_wide.2 (moves_any T k f s w3)).mono ?_⟩
    rintro e w4 ⟨rfl, hlay⟩
    have HS4 := Lib.hid (hS3.below hlay.1)
    have HI4 := Lib.hid (hI3.below hlay.1 hI3.map.lt hI3.lt)
    have HM4 := Lib.hid (MvIn.of_lay hlay (HT.out.below hS3.bel))
    clear hS3 hI3 hlay hb3 HS2 HI2 b8l b8c hr he2
    obtain ⟨g0, hg0⟩ : ∃ g0, w3.heap.size = g0 := ⟨_, rfl⟩
    rw [hg0] at HM4 ⊢
    clear hg0
    gi_wp2
    have hlim := HS4.out.limAll
    have hws := HS4.out.bel.size
    have hit4 := HI4.out.lt
    have hrk4 := HI4.out.map.lt
    have hr9 : B8 + 1 < w4.heap.size := (HS4.out.xs (B8 + 1, m9) (by simp)).1.lt
    refine wpIn_rangeFunc_ownH rfl (by omega) (gf := 90) (lb := #[.pointer (some ⟨g0, 0, none⟩), .pointer (some ⟨g0 + 1, 0, none⟩), .pointer (some ⟨g0 + 1 + 1 + 1, 0, none⟩), .pointer (some ⟨g0 + 1 + 1, 0, none⟩)]) rfl trivial (enters_of Try.func90 (by kernel_rfl) rfl)
     (moves1_stops 8 (by omega) T HOK.out k x all HAT.out f s HFI.out g0 (g0 + 1) (g0 + 1 + 1) (g0 + 1 + 1 + 1) w4 HM4.out) (fun h k h2 => k (h h2)) blk_put (Below.refl _ _) (fun _ => rfl)
     (fun pre Wr => w4.heap.size ≤ Wr.heap.size ∧ ∃ m9, (TS w (some ⟨g, 0, none⟩) (k + 1) c rs ms [(w.heap.size + 1 + 1, 95, trC T f (some ⟨g, 0, none⟩) (k + 1) c), (w.heap.size + 1 + 1 + 1, 86, #[.pointer (some ⟨w.heap.size + 1 + 1, 0, none⟩)]), (w.heap.size + 1 + 1 + 1 + 1, 154, #[.func (.func 86) #[.pointer (some ⟨w.heap.size + 1 + 1, 0, none⟩)] #[]]), (B8, 3, #[.int .i64 (k : Int)]), (B8 + 1 + 1, 92, #[.map (some (B8 + 1))])] [(B8 + 1, m9)] ds Wr ∧ IterIs D4.key Value.bool okD Wr it rk mk (left.eraseIdx i) ∧ MvIn g0 (g0 + 1) (g0 + 1 + 1) (g0 + 1 + 1 + 1) T k f s Wr ∧ CanIs m9 (NextQ T.m f T.L k vis (fromI T.m x) (toI T.m x) s (pre.map Subtype.val))))
     (fun cd pre Wr => False)
     (ownFrom_shut (fun pre Wr h => h.1) (fun pre Wr Wr' h hsh => ⟨Nat.le_trans h.1 hsh.below.size, by
      obtain ⟨_, m9, h1, h2, h3, h4⟩ := h
      exact ⟨m9, h1.shut hsh hws ⟨hlim.1, fun x hx => by obtain rfl := List.mem_singleton.1 hx; exact hr9, hlim.2.2⟩, h2.below hsh.below hrk4 hit4, h3.cells hsh.cells hsh.below.size, h4⟩⟩))
     (fun cd => ownFrom_shut (fun pre Wr h => h.elim) (fun pre Wr Wr' h hs => h))
     ⟨Nat.le_refl _, m9, HS4.out, HI4.out, HM4.out, HC9.out.congr fun z => ⟨fun h => ⟨.inl h.1, h.2⟩, fun h => ⟨h.1.resolve_right (fun ⟨j, hj, _⟩ => by cases hj), h.2⟩⟩⟩
     (fun y a' Wr => ∃ Bx, w4.heap.size ≤ Bx ∧ Blk Wr Bx 97 #[.int .i64 (heldAt (shiftH s (fromI T.m x) (toI T.m x) y.1) 0), .int .i64 (heldAt (shiftH s (fromI T.m x) (toI T.m x) y.1) 1), .int .i64 (heldAt (shiftH s (fromI T.m x) (toI T.m x) y.1) 2), .int .i64 (heldAt (shiftH s (fromI T.m x) (toI T.m x) y.1) 3)] ∧ FrC (.pointer (some ⟨T.g, 0, none⟩)) (.int .i64 f) (.pointer (some ⟨w.heap.size + 1 + 1 + 1, 0, none⟩)) (.pointer (some ⟨w.heap.size + 1 + 1 + 1 + 1, 0, none⟩)) (.pointer (some ⟨B8, 0, none⟩)) (.pointer (some ⟨B8 + 1 + 1, 0, none⟩)) (.pointer (some ⟨Bx, 0, none⟩)) [] a')
     (fun y a' => ownFrom_shut (fun _ Wr h => by obtain ⟨Bx, h1, h2, _⟩ := h; exact Nat.le_trans h1 (Nat.le_of_lt h2.lt)) (fun _ Wr Wr' h hs => by obtain ⟨Bx, h1, h2, h3⟩ := h; exact ⟨Bx, h1, hs.blk h2, h3⟩)) ?assign ?body ?done ?stop
    case stop =>
     rintro D cd pre Wr _ _ h _
     exact h.elim
    case assign =>
     rintro l' pre ⟨j, hj⟩ Wr K ⟨hI0, m9', h1, h2, h3, h4⟩ hK
     unfold Mv.enc
     gi_wp2
     have hb : Below Wr.heap.size Wr (Wr.alloc (.cells #[.int .i64 (heldAt (shiftH s (fromI T.m x) (toI T.m x) j) 0), .int .i64 (heldAt (shiftH s (fromI T.m x) (toI T.m x) j) 1), .int .i64 (heldAt (shiftH s (fromI T.m x) (toI T.m x) j) 2), .int .i64 (heldAt (shiftH s (fromI T.m x) (toI T.m x) j) 3)] 97)) := (Below.refl _ _).alloc (Nat.le_refl _) _
     exact hK _ _ (keepsFrom_below hb) (fun h => h.below hb h.lt) ⟨Nat.le_trans hI0 hb.size, m9', h1.below hb, h2.below hb h2.map.lt h2.lt, h3.below hb, h4⟩ ⟨Wr.heap.size, hI0, Blk.new Wr _ _, by constructor⟩
    case done =>
     rintro D ys Wr hD hys ⟨hsz, m9', h1, h2, h3, h4⟩ hK
     gi_wp2
     refine ⟨⟨left.eraseIdx i, vis ++ [y], m9', _, Lib.hid ⟨h1.more (Nat.le_trans hws hD) hK (fun dd hd r hr => Nat.lt_of_lt_of_le (hlim.2.2 dd hd r hr) hD) #[], h2, ?_, h4.congr (next_done HAT.out HSY.out hys)⟩, by constructor⟩, ?_⟩
     ·have h5 := (perm_erase HP.out).map Prod.fst
      rw [List.append_assoc]
      exact (List.Perm.append_left vis h5).trans HP2.out
     ·rw [h2.left_eq, HLW.out]
      have h5 := (List.getElem?_eq_some_iff.1 HP.out).1
      rw [List.length_eraseIdx_of_lt h5]
      omega
    case body =>
     rintro l' pre ⟨j, hj⟩ a' Wr hl ⟨r, hrr⟩ ⟨hsz, m9', h1, h2, h3, h4⟩ ⟨Bx, hBx, bX, ha'⟩ hlen
     cases ha'
     have hfs := (fits_moves HAT.out.ok HFI.out HOK.out.vess hj).2.2
     have hod := okD_fits hfs (allM_range HOK.out.all HOK.out.vess (okMix_ves HOK.out.ok) HAT.out.next).2
     obtain ⟨s2, hs2⟩ : ∃ s2, shiftH s (fromI T.m x) (toI T.m x) j = s2 := ⟨_, rfl⟩
     dsimp only at bX
     rw [hs2] at bX hod
     have HOD := Lib.hid hod
     have HS2 := Lib.hid hs2
     have H1 := Lib.hid h1
     have H2 := Lib.hid h2
     have H3 := Lib.hid h3
     have H4 := Lib.hid h4
     have HBX := Lib.hid bX
     have HSZ := Lib.hid hsz
     have c7 := (h1.blk 2 rfl).cell 0
     have c8 := (h1.blk 3 rfl).cell 0
     have l7 := (h1.blk 2 rfl).lt
     have l8 := (h1.blk 3 rfl).lt
     have x0 := bX.cell 0
     have x1 := bX.cell 1
     have x2 := bX.cell 2
     have x3 := bX.cell 3
     have xl := bX.lt
     have hk12 : k ≤ 12 := by have := HLT.out; have := HT.out.small; omega
     clear hfs hod hs2 h1 h2 h3 h4 bX hrr hlen hlim hws hsz
     gi_wp2
     clear c7 c8 l7 l8 x0 x1 x2 x3 xl
     refine ⟨trivial, (CallsIn.inRound l' (callsIn_wide.2 (callsIn_wide.1 (tastes_in T f (some ⟨g, 0, none⟩) (k + 1) c ((k : Int) + 1) s2 (w.heap.size + 1 + 1) Wr (HT.out.below H1.out.bel) (H1.out.blk 0 rfl) HOK.out)))).mono ?_⟩
     rintro e W7 ⟨rfl, hb7⟩
     have e1 : (!T.m.tastes.any (tasteB T.m f ((k : Int) + 1) s2)) = tastedB T.m f (k + 1) s2 := by rw [tasted_any]; rfl
     rw [e1]
     have H17 := Lib.hid (H1.out.below hb7)
     have H27 := Lib.hid (H2.out.below hb7 H2.out.map.lt H2.out.lt)
     have H37 := Lib.hid (H3.out.below hb7)
     have HB7 := Lib.hid (HBX.out.below hb7 HBX.out.lt)
     have HK7 := Lib.hid (keepsFrom_below (B := w4.heap.size) hb7)
     have HZ7 := Lib.hid (Nat.le_trans HSZ.out hb7.size)
     clear hb7 e1 H1 H2 H3 HBX HSZ
     cases hb : tastedB T.m f (k + 1) s2 with
     | false =>
      have HBF := Lib.hid hb
      clear hb
      gi_wp2
      refine ⟨HK7.out, fun _ => H37.out.h, HZ7.out, m9', H17.out, H27.out, H37.out, H4.out.congr fun z => ?_⟩
      unfold NextQ
      refine and_congr_left fun ht => ⟨fun h => h.imp id (fun ⟨j', h1, h2⟩ => ⟨j', by simp at h1 ⊢; exact .inl h1, h2⟩), ?_⟩
      rintro (h | ⟨j', h1, h2⟩)
      ·exact .inl h
      ·rw [List.map_append, List.mem_append] at h1
       rcases h1 with h1 | h1
       ·exact .inr ⟨j', h1, h2⟩
       ·obtain rfl : j' = j := by simpa using h1
        rw [HS2.out] at h2
        rw [h2, HBF.out] at ht
        cases ht
     | true =>
      have HBT := Lib.hid hb
      clear hb
      obtain ⟨w9, hup, hm9, hg9, hs9⟩ := (H17.out.xs (B8 + 1, m9') (by simp)).1.update (P := Try.prog) canTy HOD.out true
      have HS9 := Lib.hid (H17.out.setX hg9 hm9)
      obtain ⟨es9, cl9, ho9⟩ := (H17.out.xs (B8 + 1, m9') (by simp)).1.obj
      have HI9 := Lib.hid (H27.out.grown hg9 (fun e => (H17.out.xs (B8 + 1, m9') (by simp)).2.2 (by rw [← Option.some.inj e]; exact List.mem_of_getElem? HRK.out)) (fun e => by
       obtain ⟨y1, y2, y3, y4, hoi⟩ := IterIs.obj H27.out
       rw [Option.some.inj e, ho9] at hoi
       cases hoi))
      have HM9 := Lib.hid (H37.out.cells (grown_cells hg9 ho9 rfl) hg9.size)
      have HK9 := Lib.hid (HK7.out.trans (KeepsFrom.of_grownBy hg9 (fun j e => by cases e; exact hr9)))
      have HZ9 := Lib.hid (Nat.le_trans HZ7.out hg9.size)
      simp only [D4.key, ofH] at hup
      have c9 := (H17.out.blk 4 rfl).cell 0
      have l9 := (H17.out.blk 4 rfl).lt
      have x0 := HB7.out.cell 0
      have x1 := HB7.out.cell 1
      have x2 := HB7.out.cell 2
      have x3 := HB7.out.cell 3
      have xl := HB7.out.lt
      clear hm9 hg9 hs9 ho9
      gi_wp2
      refine ⟨HK9.out, fun _ => HM9.out.h, HZ9.out, _, HS9.out, HI9.out, HM9.out, (H4.out.put (ofH s2)).congr fun z => ?_⟩
      have hs2l : (ofH s2).toH = s2 := toH_ofH (by rw [← HS2.out]; unfold shiftH; rw [give_len, take_len]; exact HFI.out.lh)
      rw [hs2l]
      unfold NextQ
      constructor
      ·rintro (⟨h1 | ⟨j', h1, h2⟩, ht⟩ | h)
       ·exact ⟨.inl h1, ht⟩
       ·exact ⟨.inr ⟨j', by rw [List.map_append]; exact List.mem_append_left _ h1, h2⟩, ht⟩
       ·exact ⟨.inr ⟨j, by rw [List.map_append]; simp, by rw [h, HS2.out]⟩, by rw [h]; exact HBT.out⟩
      ·rintro ⟨h1 | ⟨j', h1, h2⟩, ht⟩
       ·exact .inl ⟨.inl h1, ht⟩
       ·rw [List.map_append, List.mem_append] at h1
        rcases h1 with h1 | h1
        ·exact .inl ⟨.inr ⟨j', h1, h2⟩, ht⟩
        ·obtain rfl : j' = j := by simpa using h1
         exact .inr (h2.trans HS2.out)
  ·
   obtain rfl : k = T.na := by have := HA0.out.1; omega
   have HF0 := Lib.hid HA0.out.2.2
   have HS0 := Lib.hid HA0.out.2.1
   have t2 := (HT.out.below HS0.out.bel).blk.cell 2
   have tl := (HT.out.below HS0.out.bel).blk.lt
   have hsm := HT.out.small
   unfold Tb.cells at t2
   clear HA0 hlt
   gi_wp2
   clear t2 tl hsm
   have hb1 : Below W.heap.size W (W.alloc (.cells #[.int .i64 ((T.na : Int) - 1)] 3)) := (Below.refl _ _).alloc (Nat.le_refl _) _
   have HS := Lib.hid ((HS0.out.below hb1).add HS0.out.bel.size (Blk.new W _ _) (HS0.out.new_row (Nat.le_refl _)))
   clear hb1 HS0
   generalize (W.alloc (.cells #[.int .i64 ((T.na : Int) - 1)] 3)) = W2 at *
   generalize W.heap.size = B0 at *
   refine wpIn_loop (fun a W => ∃ (j B13 : Nat) (ms : List (List (D4 × Bool))) (ds : List Deferred), Hid (j ≤ T.na ∧ TS w A (T.na + 1) c rs ms [(w.heap.size + 1 + 1, 95, trC T f A (T.na + 1) c), (w.heap.size + 1 + 1 + 1, 86, #[.pointer (some ⟨w.heap.size + 1 + 1, 0, none⟩)]), (w.heap.size + 1 + 1 + 1 + 1, 154, #[.func (.func 86) #[.pointer (some ⟨w.heap.size + 1 + 1, 0, none⟩)] #[]]), (B13, 3, #[.int .i64 ((j : Int) - 1)])] [] ds W ∧ ∀ (i : Nat) (m : List (D4 × Bool)), ms[i]? = some m → CanIs m (TruB T.m f T.L j i)) ∧ FrD (.pointer (some ⟨T.g, 0, none⟩)) (.int .i64 f) (.pointer (some ⟨w.heap.size + 1 + 1 + 1, 0, none⟩)) (.pointer (some ⟨w.heap.size + 1 + 1 + 1 + 1, 0, none⟩)) (.pointer (some ⟨B13, 0, none⟩)) ds a)
    (fun a W => boxNat W (a.tmps.getD 13 undef)) ?_ ?_
   ·exact ⟨T.na, _, ms, ds, Lib.hid ⟨Nat.le_refl _, HS.out, fun i m hi => (HF0.out i m hi).congr fun x => by
     unfold TruB
     have hl := HS.out.len
     have hlt := (List.getElem?_eq_some_iff.1 hi).1
     split
     ·have e : i = T.m.acts.length := by have := HT.out.mix.lenA; omega
      subst e
      exact Truth.last.symm
     ·exact Iff.rfl⟩, by constructor⟩
   clear HS HF0 ms ds
   rintro a W ⟨j, B13, ms, ds, HD0, ha⟩
   cases ha
   have b13 := (HD0.out.2.1.blk 3 rfl).cell 0
   have l13 := (HD0.out.2.1.blk 3 rfl).lt
   have hj12 : j ≤ 12 := by have := HT.out.small; have := HD0.out.1; omega
   have HJ12 := Lib.hid hj12
   by_cases hj : 1 ≤ j
   ·
    obtain ⟨i, rfl⟩ : ∃ i, j = i + 1 := ⟨j - 1, by omega⟩
    have e13 : ((i + 1 : Nat) : Int) - 1 = i := by omega
    have hT1 := HD0.out.2.1
    rw [e13] at hT1 b13
    have HF0 := Lib.hid HD0.out.2.2
    have HIL : Hid (i < T.na) := Lib.hid (by have := HD0.out.1; omega)
    have HS := Lib.hid hT1
    have HBN : Hid (boxNat W (.pointer (some ⟨B13, 0, none⟩)) = i + 1) := Lib.hid (by rw [boxNat_of ((HS.out.blk 3 rfl).cell 0)]; omega)
    clear HD0 hT1 e13
    obtain ⟨x, hx⟩ : ∃ x, T.m.acts[i]? = some x := ⟨_, List.getElem?_eq_getElem (by have := HT.out.mix.lenA; have := HIL.out; omega)⟩
    obtain ⟨all, hA⟩ := HOK.out.at_ hx
    have HAT := Lib.hid hA
    clear hx hA
    obtain ⟨ri, hri⟩ : ∃ r, rs[i]? = some r := ⟨_, List.getElem?_eq_getElem (by have := HS.out.mlen; have := HIL.out; omega)⟩
    obtain ⟨mi, hmi⟩ : ∃ m, ms[i]? = some m := ⟨_, List.getElem?_eq_getElem (by have := HS.out.len; have := HIL.out; omega)⟩
    obtain ⟨rn, hrn⟩ : ∃ r, rs[i + 1]? = some r := ⟨_, List.getElem?_eq_getElem (by have := HS.out.mlen; have := HIL.out; omega)⟩
    obtain ⟨mn, hmn⟩ : ∃ m, ms[i + 1]? = some m := ⟨_, List.getElem?_eq_getElem (by have := HS.out.len; have := HIL.out; omega)⟩
    have HRI := Lib.hid hri
    have HMI := Lib.hid hmi
    have HRN := Lib.hid hrn
    have HMN := Lib.hid hmn
    have HCN : Hid (CanIs mn (Truth T.m f T.L (i + 1))) := Lib.hid ((HF0.out _ _ hmn).congr fun x => by unfold TruB; rw [if_pos (Nat.le_refl _)])
    have HCI : Hid (CanIs mi (Fwd T.m f T.L i)) := Lib.hid ((HF0.out _ _ hmi).congr fun x => by unfold TruB; rw [if_neg (by omega)])
    obtain ⟨g, rfl, qg, lg, hin⟩ := can_cell HS.out.own hri
    obtain ⟨w1, hr1, hi1, hg1, hs1⟩ := MapIs.range (P := Try.prog) (t := 92) Try.underlying92 (show CanMap W.drew ri mi from (HS.out.maps i ri mi hri hmi).1)
    have q0 := (HS.out.blk 0 rfl).cell 2
    have q1 := (HS.out.blk 1 rfl).cell 0
    have l0 := (HS.out.blk 0 rfl).lt
    have l1 := (HS.out.blk 1 rfl).lt
    have hij : i < T.na + 1 := by have := HIL.out; omega
    unfold trC at q0
    clear hri hmi hrn hmn hin
    gi_wp2
    gi_region
    clear q0 q1 l0 l1 hr1 qg lg b13 l13 hij
    have hge := HS.out.bel.size
    have hb1 : Below W.heap.size W w1 := (below_drewN (Below.refl W.heap.size W) 1).grown hg1 (Nat.le_refl _) (fun k e => by cases e)
    have HBW : Hid (Below W.heap.size W w1) := Lib.hid hb1
    replace HS := Lib.hid (HS.out.below hb1)
    replace hi1 : IterIs D4.key Value.bool okD w1 W.heap.size ri mi mi := hi1
    obtain ⟨it, hit⟩ : ∃ n, W.heap.size = n := ⟨_, rfl⟩
    rw [hit] at hi1 hge ⊢
    have HI := Lib.hid hi1
    have HGE := Lib.hid hge
    clear hi1 hg1 hs1 hge hb1
    gi_wp2
    refine wpIn_loop (fun a W => ∃ (left : List (D4 × Bool)) (m9 : List (D4 × Bool)) (ds : List Deferred), Hid (TS w (some ⟨g, 0, none⟩) (T.na + 1) c rs (ms.set i m9) [(w.heap.size + 1 + 1, 95, trC T f (some ⟨g, 0, none⟩) (T.na + 1) c), (w.heap.size + 1 + 1 + 1, 86, #[.pointer (some ⟨w.heap.size + 1 + 1, 0, none⟩)]), (w.heap.size + 1 + 1 + 1 + 1, 154, #[.func (.func 86) #[.pointer (some ⟨w.heap.size + 1 + 1, 0, none⟩)] #[]]), (B13, 3, #[.int .i64 (i : Int)])] [] ds W ∧ IterIs D4.key Value.bool okD W it ri m9 left ∧ (left.map Prod.fst).Nodup ∧ CanIs m9 (LeftP T.m f T.L i left)) ∧ FrE (.pointer (some ⟨T.g, 0, none⟩)) (.int .i64 f) (.pointer (some ⟨w.heap.size + 1 + 1 + 1, 0, none⟩)) (.pointer (some ⟨w.heap.size + 1 + 1 + 1 + 1, 0, none⟩)) (.pointer (some ⟨B13, 0, none⟩)) (.pointer (some ⟨it, 0, none⟩)) ds a)
     (fun _ W => iterLeft W it) ?_ ?_
    ·exact ⟨mi, mi, ds, Lib.hid ⟨by rw [set_same HMI.out]; exact HS.out, HI.out, MapIs.nodup canTy HI.out.map, HCI.out.congr (left_start HCI.out)⟩, by constructor⟩
    clear HS HI
    rintro a W3 ⟨left, m9, ds, HB0, ha⟩
    cases ha
    rcases HB0.out.2.1.next (P := Try.prog) 0 with ⟨hl, hr⟩ | ⟨q, ⟨y, v⟩, w2, hp, hr, hi2, hg2, hs2, he2⟩
    ·
     subst hl
     have HS := Lib.hid HB0.out.1
     have HCT : Hid (CanIs m9 (Truth T.m f T.L i)) := Lib.hid (HB0.out.2.2.2.congr (left_end (by have := HIL.out; have := HT.out.mix.lenA; omega)))
     have b13 := (HS.out.blk 3 rfl).cell 0
     have l13 := (HS.out.blk 3 rfl).lt
     have hi12 := HJ12.out
     clear HB0
     gi_wp2
     clear hr
     have hb1 : Below W3.heap.size W3 (W3.alloc (.cells #[.int .i64 ((i : Int) - 1)] 3)) := (Below.refl _ _).alloc (Nat.le_refl _) _
     have hS1 := ((HS.out.below hb1).sub (bs' := [(w.heap.size + 1 + 1, 95, trC T f (some ⟨g, 0, none⟩) (T.na + 1) c), (w.heap.size + 1 + 1 + 1, 86, #[.pointer (some ⟨w.heap.size + 1 + 1, 0, none⟩)]), (w.heap.size + 1 + 1 + 1 + 1, 154, #[.func (.func 86) #[.pointer (some ⟨w.heap.size + 1 + 1, 0, none⟩)] #[]])]) (fun b hb => by
      simp only [List.mem_cons, List.not_mem_nil, or_false] at hb ⊢
      rcases hb with h | h | h <;> simp [h])).add HS.out.bel.size (Blk.new W3 _ _) (HS.out.new_row (Nat.le_refl _))
     refine ⟨⟨i, _, _, _, Lib.hid ⟨Nat.le_of_lt HIL.out, hS1, fun i2 m2 hm2 => ?_⟩, by constructor⟩, ?_⟩
     ·by_cases e : i = i2
      ·subst e
       rw [List.getElem?_set_self (List.getElem?_eq_some_iff.1 HMI.out).1] at hm2
       cases hm2
       exact HCT.out.congr fun x => by unfold TruB; rw [if_pos (Nat.le_refl _)]
      ·rw [List.getElem?_set_ne e] at hm2
       exact (HF0.out i2 m2 hm2).congr fun x => by
        unfold TruB
        by_cases h : i + 1 ≤ i2
        ·rw [if_pos h, if_pos (by omega)]
        ·rw [if_neg h, if_neg (by omega)]
     ·show boxNat _ (.pointer (some ⟨W3.heap.size, 0, none⟩)) < boxNat W (.pointer (some ⟨B13, 0, none⟩))
      rw [HBN.out]
      have h9 := (Blk.new W3 3 #[.int .i64 ((i : Int) - 1)]).cell 0
      rw [boxNat_of h9]
      omega
    ·
     obtain ⟨x1, x2, x3, x4, ho⟩ := IterIs.obj HB0.out.2.1
     have hT2 := HB0.out.1.iter ho HGE.out hg2
     have HND := Lib.hid HB0.out.2.2.1
     have HC9 := Lib.hid HB0.out.2.2.2
     have HLW := Lib.hid (HB0.out.2.1.left_eq)
     have hyk : Fwd T.m f T.L i y.toH := by
      exact ((HB0.out.2.2.2.keys y).1 (HB0.out.2.1.sub (List.mem_of_getElem? hp))).1
     have hfit : Fits all y.toH := fwd_fits HOK.out.all HOK.out.vess hyk HAT.out.ha
     clear hyk ho HB0
     obtain ⟨s, hs⟩ : ∃ s, y.toH = s := ⟨_, rfl⟩
     replace hr : (Instr.next (.pointer (some ⟨it, 0, none⟩)) false 0).run Try.prog W3 = .ok (.tuple #[.bool true, .agg #[.int .i64 (heldAt s 0), .int .i64 (heldAt s 1), .int .i64 (heldAt s 2), .int .i64 (heldAt s 3)], .bool v]) w2 := by rw [← hs]; exact hr
     replace he2 : (Instr.entry (.pointer (some ⟨it, 0, none⟩))).run Try.prog w2 = .ok (.tuple #[.agg #[.int .i64 (heldAt s 0), .int .i64 (heldAt s 1), .int .i64 (heldAt s 2), .int .i64 (heldAt s 3)], .bool v]) w2 := by rw [← hs]; exact he2
     rw [hs] at hfit
     have HSY := Lib.hid hs
     have HFI := Lib.hid hfit
     have HI2 := Lib.hid hi2
     have HS2 := Lib.hid hT2
     have HP := Lib.hid hp
     clear hs hfit hi2 hT2 hp hg2 hs2
     have b13c := (HS2.out.blk 3 rfl).cell 0
     have b13l := (HS2.out.blk 3 rfl).lt
     gi_wp2
     have hb3 : Below w2.heap.size w2 (w2.alloc (.cells #[.int .i64 (heldAt s 0), .int .i64 (heldAt s 1), .int .i64 (heldAt s 2), .int .i64 (heldAt s 3)] 97)) := (Below.refl _ _).alloc (Nat.le_refl _) _
     have hS3 := (HS2.out.below hb3).add HS2.out.bel.size (Blk.new w2 _ _) (HS2.out.new_row (Nat.le_refl _))
     have hI3 := HI2.out.below hb3 HI2.out.map.lt HI2.out.lt
     have hz2 : w2.heap.size + 1 = (w2.alloc (.cells #[.int .i64 (heldAt s 0), .int .i64 (heldAt s 1), .int .i64 (heldAt s 2), .int .i64 (heldAt s 3)] 97)).heap.size := by simp
     generalize (w2.alloc (.cells #[.int .i64 (heldAt s 0), .int .i64 (heldAt s 1), .int .i64 (heldAt s 2), .int .i64 (heldAt s 3)] 97)) = w3 at *
     have hb4 : Below w3.heap.size w3 (w3.alloc (.cells #[.bool false] 4)) := (Below.refl _ _).alloc (Nat.le_refl _) _
     have hS4 := (hS3.below hb4).add hS3.bel.size (Blk.new w3 4 #[.bool false]) (hS3.new_row (Nat.le_refl _))
     have hI4 := hI3.below hb4 hI3.map.lt hI3.lt
     rw [← hz2] at hS4
     clear hS3 hI3 hb3 hb4 hz2 HS2 HI2 b13c b13l hr he2
     generalize (w3.alloc (.cells #[.bool false] 4)) = w4 at *
     generalize w2.heap.size = B14 at *
     refine ⟨trivial, (callsIn_wide.2 (moves_any T i f s w4)).mono ?_⟩
     rintro e w5 ⟨rfl, hlay⟩
     have HS4 := Lib.hid (hS4.below hlay.1)
     have HI4 := Lib.hid (hI4.below hlay.1 hI4.map.lt hI4.lt)
     have HM4 := Lib.hid (MvIn.of_lay hlay (HT.out.below hS4.bel))
     clear hS4 hI4 hlay
     obtain ⟨g0, hg0⟩ : ∃ g0, w4.heap.size = g0 := ⟨_, rfl⟩
     rw [hg0] at HM4 ⊢
     clear hg0
     gi_wp2
     have hlim := HS4.out.limAll
     have hws := HS4.out.bel.size
     have hit4 := HI4.out.lt
     have hri4 := HI4.out.map.lt
     refine wpIn_rangeFunc_ownH rfl (by omega) (gf := 90) (lb := #[.pointer (some ⟨g0, 0, none⟩), .pointer (some ⟨g0 + 1, 0, none⟩), .pointer (some ⟨g0 + 1 + 1 + 1, 0, none⟩), .pointer (some ⟨g0 + 1 + 1, 0, none⟩)]) rfl trivial (enters_of Try.func90 (by kernel_rfl) rfl)
      (moves1_stops 8 (by omega) T HOK.out i x all HAT.out f s HFI.out g0 (g0 + 1) (g0 + 1 + 1) (g0 + 1 + 1 + 1) w5 HM4.out) (fun h k h2 => k (h h2)) blk_put (Below.refl _ _) (fun _ => rfl)
      (fun pre Wr => w5.heap.size ≤ Wr.heap.size ∧ ∃ b, (TS w (some ⟨g, 0, none⟩) (T.na + 1) c rs (ms.set i m9) [(w.heap.size + 1 + 1, 95, trC T f (some ⟨g, 0, none⟩) (T.na + 1) c), (w.heap.size + 1 + 1 + 1, 86, #[.pointer (some ⟨w.heap.size + 1 + 1, 0, none⟩)]), (w.heap.size + 1 + 1 + 1 + 1, 154, #[.func (.func 86) #[.pointer (some ⟨w.heap.size + 1 + 1, 0, none⟩)] #[]]), (B13, 3, #[.int .i64 (i : Int)]), (B14, 97, #[.int .i64 (heldAt s 0), .int .i64 (heldAt s 1), .int .i64 (heldAt s 2), .int .i64 (heldAt s 3)]), (B14 + 1, 4, #[.bool b])] [] ds Wr ∧ IterIs D4.key Value.bool okD Wr it ri m9 (left.eraseIdx q) ∧ MvIn g0 (g0 + 1) (g0 + 1 + 1) (g0 + 1 + 1 + 1) T i f s Wr ∧ (b = true ↔ ∃ jj ∈ pre.map Subtype.val, Truth T.m f T.L (i + 1) (shiftH s (fromI T.m x) (toI T.m x) jj))))
      (fun cd pre Wr => False)
      (ownFrom_shut (fun pre Wr h => h.1) (fun pre Wr Wr' h hsh => ⟨Nat.le_trans h.1 hsh.below.size, by
       obtain ⟨_, b, h1, h2, h3, h4⟩ := h
       exact ⟨b, h1.shut hsh hws hlim, h2.below hsh.below hri4 hit4, h3.cells hsh.cells hsh.below.size, h4⟩⟩))
      (fun cd => ownFrom_shut (fun pre Wr h => h.elim) (fun pre Wr Wr' h hs => h))
      ⟨Nat.le_refl _, false, HS4.out, HI4.out, HM4.out, by simp⟩
      (fun y a' Wr => ∃ Bx, w5.heap.size ≤ Bx ∧ Blk Wr Bx 97 #[.int .i64 (heldAt (shiftH s (fromI T.m x) (toI T.m x) y.1) 0), .int .i64 (heldAt (shiftH s (fromI T.m x) (toI T.m x) y.1) 1), .int .i64 (heldAt (shiftH s (fromI T.m x) (toI T.m x) y.1) 2), .int .i64 (heldAt (shiftH s (fromI T.m x) (toI T.m x) y.1) 3)] ∧ FrF (.pointer (some ⟨T.g, 0, none⟩)) (.int .i64 f) (.pointer (some ⟨w.heap.size + 1 + 1 + 1, 0, none⟩)) (.pointer (some ⟨w.heap.size + 1 + 1 + 1 + 1, 0, none⟩)) (.pointer (some ⟨B13, 0, none⟩)) (.pointer (some ⟨B14 + 1, 0, none⟩)) (.pointer (some ⟨Bx, 0, none⟩)) [] a')
      (fun y a' => ownFrom_shut (fun _ Wr h => by obtain ⟨Bx, h1, h2, _⟩ := h; exact Nat.le_trans h1 (Nat.le_of_lt h2.lt)) (fun _ Wr Wr' h hs => by obtain ⟨Bx, h1, h2, h3⟩ := h; exact ⟨Bx, h1, hs.blk h2, h3⟩)) ?assign ?body ?done ?stop
     case stop =>
      rintro D cd pre Wr _ _ h _
      exact h.elim
     case assign =>
      rintro l' pre ⟨j, hj⟩ Wr K ⟨hI0, b, h1, h2, h3, h4⟩ hK
      unfold Mv.enc
      gi_wp2
      have hb : Below Wr.heap.size Wr (Wr.alloc (.cells #[.int .i64 (heldAt (shiftH s (fromI T.m x) (toI T.m x) j) 0), .int .i64 (heldAt (shiftH s (fromI T.m x) (toI T.m x) j) 1), .int .i64 (heldAt (shiftH s (fromI T.m x) (toI T.m x) j) 2), .int .i64 (heldAt (shiftH s (fromI T.m x) (toI T.m x) j) 3)] 97)) := (Below.refl _ _).alloc (Nat.le_refl _) _
      exact hK _ _ (keepsFrom_below hb) (fun h => h.below hb h.lt) ⟨Nat.le_trans hI0 hb.size, b, h1.below hb, h2.below hb h2.map.lt h2.lt, h3.below hb, h4⟩ ⟨Wr.heap.size, hI0, Blk.new Wr _ _, by constructor⟩
     case done =>
      rintro D ys Wr hD hys ⟨hsz, b, h1, h2, h3, h4⟩ hK
      have hlead : b = true ↔ Lead T.m f T.L i y.toH := by rw [HSY.out]; exact lead_is HAT.out hys h4
      have h1' := h1.more (Nat.le_trans hws hD) hK (fun dd hd r hr => Nat.lt_of_lt_of_le (hlim.2.2 dd hd r hr) hD) #[]
      have hmeas : iterLeft Wr it < iterLeft W3 it := by
       rw [h2.left_eq, HLW.out]
       have h5 := (List.getElem?_eq_some_iff.1 HP.out).1
       rw [List.length_eraseIdx_of_lt h5]
       omega
      have b15 := (h1.blk 5 rfl).cell 0
      have l15 := (h1.blk 5 rfl).lt
      have HLD := Lib.hid hlead
      have H1 := Lib.hid h1'
      have H2 := Lib.hid h2
      have HME := Lib.hid hmeas
      clear hlead h1' h1 h2 h3 h4 hK hmeas hys hlim hws hit4 hri4
      cases b with
      | true =>
       gi_wp2
       refine ⟨⟨left.eraseIdx q, m9, _, Lib.hid ⟨H1.out.sub (fun b hb => by
        simp only [List.mem_cons, List.not_mem_nil, or_false] at hb ⊢
        rcases hb with h | h | h | h <;> simp [h]), H2.out, left_sub HND.out HP.out, HC9.out.congr (left_keep HP.out (by have h := HLD.out; simpa using h))⟩, by constructor⟩, HME.out⟩
      | false =>
       gi_wp2
       clear b15 l15
       have q0 := (H1.out.blk 0 rfl).cell 2
       have q1 := (H1.out.blk 1 rfl).cell 0
       have q2 := (H1.out.blk 3 rfl).cell 0
       obtain ⟨g', hgg, q3, q3l, _⟩ := can_cell H1.out.own HRI.out
       obtain rfl : g = g' := by simpa using hgg
       have y0 := (H1.out.blk 4 rfl).cell 0
       have y1 := (H1.out.blk 4 rfl).cell 1
       have y2 := (H1.out.blk 4 rfl).cell 2
       have y3 := (H1.out.blk 4 rfl).cell 3
       have l0 := (H1.out.blk 0 rfl).lt
       have l1 := (H1.out.blk 1 rfl).lt
       have l2 := (H1.out.blk 3 rfl).lt
       have l4 := (H1.out.blk 4 rfl).lt
       have hij : i < T.na + 1 := by have := HIL.out; omega
       unfold trC at q0
       have hI9 : IterIs D4.key Value.bool okD Wr.drew it ri m9 (left.eraseIdx q) := H2.out
       have HS9 := Lib.hid (H1.out.below (below_drewN (Below.refl Wr.heap.size Wr) 1))
       have hyD : okD y := by rw [← ofH_toH y, HSY.out]; exact okD_fits HFI.out HAT.out.rng
       obtain ⟨w10, hdel, hi10, hg10, hs10⟩ := hI9.delete_ (P := Try.prog) canTy hyD (left_ne HND.out HP.out) 0
       replace hdel : (Builtin.delete_ #[92, 97] 0 #[.map (some ri), .agg #[.int .i64 (heldAt s 0), .int .i64 (heldAt s 1), .int .i64 (heldAt s 2), .int .i64 (heldAt s 3)]]).run Try.prog Wr.drew = .ok (.tuple #[]) w10 := by rw [← HSY.out]; exact hdel
       have HS10 := Lib.hid (HS9.out.setMap (m := m9) HRI.out (by rw [List.getElem?_set_self (List.getElem?_eq_some_iff.1 HMI.out).1]) hg10 hi10.map)
       have HI10 := Lib.hid hi10
       clear hI9 hyD hi10 hg10 hs10 hgg
       gi_region
       clear q0 q1 q2 q3 q3l y0 y1 y2 y3 l0 l1 l2 l4 hij hdel
       gi_wp2
       have hnl : ¬ Lead T.m f T.L i y.toH := fun h => by have := HLD.out.2 h; cases this
       refine ⟨⟨left.eraseIdx q, _, _, Lib.hid ⟨?_, HI10.out, left_sub HND.out HP.out, (HC9.out.cut y).congr (left_cut HND.out HP.out hnl)⟩, by constructor⟩, ?_⟩
       ·have h9 := HS10.out.sub (bs' := [(w.heap.size + 1 + 1, 95, trC T f (some ⟨g, 0, none⟩) (T.na + 1) c), (w.heap.size + 1 + 1 + 1, 86, #[.pointer (some ⟨w.heap.size + 1 + 1, 0, none⟩)]), (w.heap.size + 1 + 1 + 1 + 1, 154, #[.func (.func 86) #[.pointer (some ⟨w.heap.size + 1 + 1, 0, none⟩)] #[]]), (B13, 3, #[.int .i64 (i : Int)])]) (fun b hb => by
         simp only [List.mem_cons, List.not_mem_nil, or_false] at hb ⊢
         rcases hb with h | h | h | h <;> simp [h])
        rw [List.set_set] at h9
        exact h9
       ·have h9 := HME.out
        rw [HI10.out.left_eq]
        rw [H2.out.left_eq] at h9
        exact h9
     case body =>
      rintro l' pre ⟨j, hj⟩ a' Wr hl ⟨r, hrr⟩ ⟨hsz, b, h1, h2, h3, h4⟩ ⟨Bx, hBx, bX, ha'⟩ hlen
      cases ha'
      have hfs := (fits_moves HAT.out.ok HFI.out HOK.out.vess hj).2.2
      have hod := okD_fits hfs (allM_range HOK.out.all HOK.out.vess (okMix_ves HOK.out.ok) HAT.out.next).2
      obtain ⟨s2, hs2⟩ : ∃ s2, shiftH s (fromI T.m x) (toI T.m x) j = s2 := ⟨_, rfl⟩
      dsimp only at bX
      have hs2l : (ofH s2).toH = s2 := toH_ofH (by rw [← hs2]; unfold shiftH; rw [give_len, take_len]; exact HFI.out.lh)
      rw [hs2] at bX hod
      obtain ⟨g', hgg, qn, ln, hn⟩ := can_cell h1.own HRN.out
      obtain rfl : g = g' := by simpa using hgg
      have hmap : CanMap Wr rn mn := (h1.maps (i + 1) rn mn HRN.out (by rw [List.getElem?_set_ne (by omega)]; exact HMN.out)).1
      obtain ⟨bt, hbt, hlk⟩ : ∃ bt : Bool, (bt = true ↔ Truth T.m f T.L (i + 1) s2) ∧ ∀ W', Below Wr.heap.size Wr W' → (Instr.lookup 92 (.map (some rn)) (.agg #[.int .i64 (heldAt s2 0), .int .i64 (heldAt s2 1), .int .i64 (heldAt s2 2), .int .i64 (heldAt s2 3)]) false).run Try.prog W' = .ok (.bool bt) W' := by
       by_cases ht : Truth T.m f T.L (i + 1) s2
       ·refine ⟨true, by simp [ht], fun W' hW' => ?_⟩
        have h5 := (hmap.below hW' hmap.lt).lookup canTy hod false
        rw [HCN.out.look_some (by rw [hs2l]; exact ht)] at h5
        exact h5
       ·refine ⟨false, by simp [ht], fun W' hW' => ?_⟩
        have h5 := (hmap.below hW' hmap.lt).lookup canTy hod false
        rw [HCN.out.look_none (by rw [hs2l]; exact ht)] at h5
        exact h5
      have HQN := Lib.hid qn
      have HLN := Lib.hid ln
      have HBT := Lib.hid hbt
      have HLK := Lib.hid hlk
      have HS2 := Lib.hid hs2
      have H1 := Lib.hid h1
      have H2 := Lib.hid h2
      have H3 := Lib.hid h3
      have H4 := Lib.hid h4
      have HBX := Lib.hid bX
      have HSZ := Lib.hid hsz
      clear hfs hod hs2 hs2l h1 h2 h3 h4 bX hrr hlen hlim hws hsz qn ln hbt hlk hgg hmap hn
      gi_wp2
      have fin : ∀ (V : World) (b2 : Bool), Below Wr.heap.size Wr V → b2 = (b || bt) → KeepsFrom w5.heap.size Wr (V.setCell ⟨B14 + 1, 0, none⟩ (.bool b2)) ∧ (Blk Wr (g0 + 1 + 1 + 1) 97 #[.int .i64 (heldAt s 0), .int .i64 (heldAt s 1), .int .i64 (heldAt s 2), .int .i64 (heldAt s 3)] → Blk (V.setCell ⟨B14 + 1, 0, none⟩ (.bool b2)) (g0 + 1 + 1 + 1) 97 #[.int .i64 (heldAt s 0), .int .i64 (heldAt s 1), .int .i64 (heldAt s 2), .int .i64 (heldAt s 3)]) ∧ w5.heap.size ≤ (V.setCell ⟨B14 + 1, 0, none⟩ (.bool b2)).heap.size ∧ ∃ b, (TS w (some ⟨g, 0, none⟩) (T.na + 1) c rs (ms.set i m9) [(w.heap.size + 1 + 1, 95, trC T f (some ⟨g, 0, none⟩) (T.na + 1) c), (w.heap.size + 1 + 1 + 1, 86, #[.pointer (some ⟨w.heap.size + 1 + 1, 0, none⟩)]), (w.heap.size + 1 + 1 + 1 + 1, 154, #[.func (.func 86) #[.pointer (some ⟨w.heap.size + 1 + 1, 0, none⟩)] #[]]), (B13, 3, #[.int .i64 (i : Int)]), (B14, 97, #[.int .i64 (heldAt s 0), .int .i64 (heldAt s 1), .int .i64 (heldAt s 2), .int .i64 (heldAt s 3)]), (B14 + 1, 4, #[.bool b])] [] ds (V.setCell ⟨B14 + 1, 0, none⟩ (.bool b2)) ∧ IterIs D4.key Value.bool okD (V.setCell ⟨B14 + 1, 0, none⟩ (.bool b2)) it ri m9 (left.eraseIdx q) ∧ MvIn g0 (g0 + 1) (g0 + 1 + 1) (g0 + 1 + 1 + 1) T i f s (V.setCell ⟨B14 + 1, 0, none⟩ (.bool b2)) ∧ (b = true ↔ ∃ jj ∈ (pre ++ [(⟨j, hj⟩ : Mv T.m x f all s)]).map Subtype.val, Truth T.m f T.L (i + 1) (shiftH s (fromI T.m x) (toI T.m x) jj))) := by
       intro V b2 hV hb2
       have hS := H1.out.below hV
       have hgs := grown_setCell (row := some (B14 + 1)) (grown_refl V _) (p := ⟨B14 + 1, 0, none⟩) (.inl rfl) (.bool b2)
       have hbn : Blk (V.setCell ⟨B14 + 1, 0, none⟩ (.bool b2)) (B14 + 1) 4 #[.bool b2] := (hS.blk 5 rfl).set_ 0 _
       have hT := hS.setBox (bs' := [(w.heap.size + 1 + 1, 95, trC T f (some ⟨g, 0, none⟩) (T.na + 1) c), (w.heap.size + 1 + 1 + 1, 86, #[.pointer (some ⟨w.heap.size + 1 + 1, 0, none⟩)]), (w.heap.size + 1 + 1 + 1 + 1, 154, #[.func (.func 86) #[.pointer (some ⟨w.heap.size + 1 + 1, 0, none⟩)] #[]]), (B13, 3, #[.int .i64 (i : Int)]), (B14, 97, #[.int .i64 (heldAt s 0), .int .i64 (heldAt s 1), .int .i64 (heldAt s 2), .int .i64 (heldAt s 3)]), (B14 + 1, 4, #[.bool b2])]) (List.mem_of_getElem? (i := 5) rfl) hgs hbn (fun u hu => by
        simp only [List.mem_cons, List.not_mem_nil, or_false] at hu
        rcases hu with rfl | rfl | rfl | rfl | rfl | rfl
        ·exact .inl ⟨by simp, blk_ne (hS.blk 0 rfl) (hS.blk 5 rfl) (by decide)⟩
        ·exact .inl ⟨by simp, blk_ne (hS.blk 1 rfl) (hS.blk 5 rfl) (by decide)⟩
        ·exact .inl ⟨by simp, blk_ne (hS.blk 2 rfl) (hS.blk 5 rfl) (by decide)⟩
        ·exact .inl ⟨by simp, blk_ne (hS.blk 3 rfl) (hS.blk 5 rfl) (by decide)⟩
        ·exact .inl ⟨by simp, by dsimp only; omega⟩
        ·exact .inr rfl)
       have hM : MvIn g0 (g0 + 1) (g0 + 1 + 1) (g0 + 1 + 1 + 1) T i f s (V.setCell ⟨B14 + 1, 0, none⟩ (.bool b2)) := by
        have h5 := H3.out.below hV
        have hne : ∀ {b : Nat} {t : TypeId} {cs : Array Value}, Blk V b t cs → t ≠ 4 → some b ≠ some (B14 + 1) := fun hb ht e => blk_ne hb (hS.blk 5 rfl) ht (Option.some.inj e)
        exact ⟨h5.t.grown hgs (hne h5.t (by decide)), h5.i.grown hgs (hne h5.i (by decide)), h5.f.grown hgs (hne h5.f (by decide)), h5.h.grown hgs (hne h5.h (by decide)), HT.out.below hT.bel⟩
       have hI := (H2.out.below hV H2.out.map.lt H2.out.lt)
       refine ⟨(keepsFrom_below hV).trans (keepsFrom_setCell _ _ _ _), fun _ => hM.h, Nat.le_trans HSZ.out (Nat.le_trans hV.size hgs.size), b2, hT, hI.grown hgs (fun e => map_not hI.map (hS.blk 5 rfl) (Option.some.inj e)) (fun e => by
        obtain ⟨y1, y2, y3, y4, hoi⟩ := IterIs.obj hI
        exact blk_not (hS.blk 5 rfl) hoi rfl (Option.some.inj e).symm), hM, ?_⟩
       rw [hb2, Bool.or_eq_true, H4.out, HBT.out, List.map_append]
       constructor
       ·rintro (⟨j', h5, h6⟩ | h6)
        ·exact ⟨j', List.mem_append_left _ h5, h6⟩
        ·exact ⟨j, by simp, by rw [HS2.out]; exact h6⟩
       ·rintro ⟨j', h5, h6⟩
        rcases List.mem_append.1 h5 with h5 | h5
        ·exact .inl ⟨j', h5, h6⟩
        ·obtain rfl : j' = j := by simpa using h5
         rw [HS2.out] at h6
         exact .inr h6
      cases b with
      | true =>
       refine wpIn_flow_old [] [true, true, true, true, true, true, true, true, true, true, true, true, true] [false, false, false, false, false, false, false, false, false, false, false, false, false, true] (by kernel_rfl) (by kernel_rfl) (by kernel_rfl) (below_drewN (Below.refl _ _) 1) ?_
       refine wpFlow_nil (A := ?AFtx) ?hqtx ?_
       case hqtx =>
        rintro σ hσ of hof hcl
        have HOF : Hid (∀ z, Below Wr.heap.size Wr (of z)) := Lib.hid hof
        clear hof hcl
        have b15 : ∀ z, (of z).cell? ⟨B14 + 1, 0, none⟩ = some (.bool true) := fun z => ((H1.out.below (HOF.out z)).blk 5 rfl).cell 0
        simp only [pickB]
        repeat (gi_big_quiet_step (fail))
        refine wpQuietIn_nil ?_
        exact rfl
       intro V hW
       have hfin := Lib.hid (fin V true hW)
       have z15 := ((H1.out.below hW).blk 5 rfl).frozen 0
       have y15 := ((H1.out.below hW).blk 5 rfl).cell 0
       have l15 := ((H1.out.below hW).blk 5 rfl).lt
       clear hW fin
       simp only [pickB]
       refine wpT_cons ?_
       gi_wp2
       refine wpT_nil ?_
       gi_wp2
       exact hfin.out (by simp)
      | false =>
       refine wpIn_flow_old [] [true, true, true, true, true, true, true, true, true, true, true, true, true] [false, false, false, false, false, false, false, false, false, false, false, false, false, true] (by kernel_rfl) (by kernel_rfl) (by kernel_rfl) (below_drewN (Below.refl _ _) 1) ?_
       refine wpFlow_nil (A := ?AFfx) ?hqfx ?_
       case hqfx =>
        rintro σ hσ of hof hcl
        have HOF : Hid (∀ z, Below Wr.heap.size Wr (of z)) := Lib.hid hof
        clear hof hcl
        have b15 : ∀ z, (of z).cell? ⟨B14 + 1, 0, none⟩ = some (.bool false) := fun z => ((H1.out.below (HOF.out z)).blk 5 rfl).cell 0
        have q0 : ∀ z, (of z).cell? ⟨w.heap.size + 1 + 1, 2, none⟩ = some (.slice (some ⟨g, 0, none⟩) (T.na + 1) c) := fun z => ((H1.out.below (HOF.out z)).blk 0 rfl).cell 2
        have q1 : ∀ z, (of z).cell? ⟨w.heap.size + 1 + 1 + 1, 0, none⟩ = some (.pointer (some ⟨w.heap.size + 1 + 1, 0, none⟩)) := fun z => ((H1.out.below (HOF.out z)).blk 1 rfl).cell 0
        have q2 : ∀ z, (of z).cell? ⟨B13, 0, none⟩ = some (.int .i64 (i : Int)) := fun z => ((H1.out.below (HOF.out z)).blk 3 rfl).cell 0
        have q3 : ∀ z, (of z).cell? ⟨g, i + 1, none⟩ = some (.map (some rn)) := fun z => ((HOF.out z).cell (p := ⟨g, i + 1, none⟩) HLN.out).trans HQN.out
        have y0 : ∀ z, (of z).cell? ⟨Bx, 0, none⟩ = some (.int .i64 (heldAt s2 0)) := fun z => (HBX.out.below (HOF.out z) HBX.out.lt).cell 0
        have y1 : ∀ z, (of z).cell? ⟨Bx, 1, none⟩ = some (.int .i64 (heldAt s2 1)) := fun z => (HBX.out.below (HOF.out z) HBX.out.lt).cell 1
        have y2 : ∀ z, (of z).cell? ⟨Bx, 2, none⟩ = some (.int .i64 (heldAt s2 2)) := fun z => (HBX.out.below (HOF.out z) HBX.out.lt).cell 2
        have y3 : ∀ z, (of z).cell? ⟨Bx, 3, none⟩ = some (.int .i64 (heldAt s2 3)) := fun z => (HBX.out.below (HOF.out z) HBX.out.lt).cell 3
        have hlk : ∀ z, (Instr.lookup 92 (.map (some rn)) (.agg #[.int .i64 (heldAt s2 0), .int .i64 (heldAt s2 1), .int .i64 (heldAt s2 2), .int .i64 (heldAt s2 3)]) false).run Try.prog (of z) = .ok (.bool bt) (of z) := fun z => HLK.out _ (HOF.out z)
        have hij : i < T.na := HIL.out
        have hw1 : IntKind.i64.wrap ((i : Int) + 1) = (i : Int) + 1 := IntWalk.i64_in _ (by have := HIL.out; have := HT.out.small; omega)
        have hn1 : ((i : Int) + 1).toNat = i + 1 := by omega
        simp only [pickB]
        repeat (gi_big_quiet_step (fail))
        refine wpQuietIn_nil ?_
        exact rfl
       intro V hW
       have hfin := Lib.hid (fin V bt hW)
       have z15 := ((H1.out.below hW).blk 5 rfl).frozen 0
       have y15 := ((H1.out.below hW).blk 5 rfl).cell 0
       have l15 := ((H1.out.below hW).blk 5 rfl).lt
       clear hW fin
       simp only [pickB]
       refine wpT_cons ?_
       gi_wp2
       refine wpT_nil ?_
       gi_wp2
       exact hfin.out (by simp)
   ·
    obtain rfl : j = 0 := by omega
    obtain ⟨m0, hm0⟩ : ∃ m, ms[0]? = some m := ⟨_, List.getElem?_eq_getElem (by have := HD0.out.2.1.len; omega)⟩
    obtain ⟨r0, hr0⟩ : ∃ r, rs[0]? = some r := ⟨_, List.getElem?_eq_getElem (by have := HD0.out.2.1.mlen; omega)⟩
    have HC0 : Hid (CanIs m0 (Truth T.m f T.L 0)) := Lib.hid ((HD0.out.2.2 0 m0 hm0).congr fun x => by unfold TruB; rw [if_pos (Nat.le_refl _)])
    have HCA : Hid (∀ (i : Nat) (m : List (D4 × Bool)), ms[i]? = some m → CanIs m (Truth T.m f T.L i)) := Lib.hid fun i m hm => (HD0.out.2.2 i m hm).congr fun x => by unfold TruB; rw [if_pos (Nat.zero_le _)]
    have HS := Lib.hid HD0.out.2.1
    have HR0 := Lib.hid hr0
    have HM0 := Lib.hid hm0
    clear HD0 hj hr0 hm0
    gi_wp2
    clear b13 l13
    obtain ⟨g, hgA, qg, lg, _⟩ := can_cell HS.out.own HR0.out
    have HGA := Lib.hid (And.intro hgA (And.intro qg lg))
    clear hgA qg lg
    refine wpIn_flow_old [] [true, true, true, true, true, true, true, true, true, true, true] [] (by kernel_rfl) (by kernel_rfl) (by kernel_rfl) (below_drewN (Below.refl _ _) 1) ?_
    refine wpFlow_nil (A := ?AFz) ?hqz ?_
    case hqz =>
     rintro σ hσ of hof hcl
     have HOF : Hid (∀ z, Below W.heap.size W (of z)) := Lib.hid hof
     clear hof hcl
     have q0 : ∀ z, (of z).cell? ⟨w.heap.size + 1 + 1, 2, none⟩ = some (.slice (some ⟨g, 0, none⟩) (T.na + 1) c) := fun z => by rw [← HGA.out.1]; exact ((HS.out.below (HOF.out z)).blk 0 rfl).cell 2
     have q1 : ∀ z, (of z).cell? ⟨w.heap.size + 1 + 1 + 1, 0, none⟩ = some (.pointer (some ⟨w.heap.size + 1 + 1, 0, none⟩)) := fun z => ((HS.out.below (HOF.out z)).blk 1 rfl).cell 0
     have q2 : ∀ z, (of z).cell? ⟨g, 0, none⟩ = some (.map (some r0)) := fun z => ((HOF.out z).cell (p := ⟨g, 0, none⟩) HGA.out.2.2).trans HGA.out.2.1
     have hln : ∀ z, (Builtin.len_ #[92] 3 #[.map (some r0)]).run Try.prog (of z) = .ok (.int .i64 (m0.length : Int)) (of z) := fun z => ((HS.out.below (HOF.out z)).maps 0 r0 m0 HR0.out HM0.out).1.len 3
     simp only [pickB]
     repeat (gi_big_quiet_step (fail))
     refine wpQuietIn_nil ?_
     exact rfl
    intro W9 hW
    have HS9 := Lib.hid (HS.out.below hW)
    clear hW
    simp only [pickB]
    refine wpT_nil ?_
    gi_wp2
    refine leaves_marksD _ _ HS9.out.marks ?_
    intro w' hs
    refine ⟨.tuple #[.pointer (some ⟨w.heap.size + 1 + 1, 0, none⟩), .bool (decide (0 < m0.length))], ?_, w.heap.size + 1 + 1, decide (0 < m0.length), A, T.na + 1, c, rs, ms, rfl, HS9.out.bel.trans (hs.below.mono (Nat.le_refl _)), ⟨hs.blk (HS9.out.blk 0 rfl), hs.own HS9.out.own, HS9.out.len, fun i r m hr hm => ?_, by omega⟩, by rw [HT.out.mix.lenA], HCA.out, ?_⟩
    ·simp [results, Try.results41, go_sem]
    ·obtain ⟨es, cl, h1, h2⟩ := (HS9.out.maps i r m hr hm).1
     exact ⟨es, cl, hs.others _ _ h1 (fun x e => by cases e), h2⟩
    ·rw [decide_eq_true_eq]
     constructor
     ·intro h
      obtain ⟨p, hp⟩ := List.exists_mem_of_length_pos h
      have h1 := (HC0.out.keys p.1).1 ⟨p.2, hp⟩
      rw [truth_zero h1] at h1
      exact h1
     ·intro h
      obtain ⟨v, hv⟩ := (HC0.out.keys (ofH zeroH)).2 h
      exact List.length_pos_of_mem hv

end Go.Proofs.Ythofngceiecniaa
/- A range over a function whose iterator may itself hold a range over a function: the caller's invariant abides whatever is no cells; the body never leaves the loop. -/
namespace Go.Proofs.Ythofngceiecniaa
open Go.RowKit

theorem keepsMore {B B' : Nat} {W W' : World} (h : KeepsFrom B W W') (hB : B ≤ B') : KeepsFrom B' W W' := ⟨h.size, fun k o hk => h.same k o (Nat.le_trans hB hk)⟩
theorem keepsFrom_put {B l : Nat} {W : World} {o : Obj} (h : l < B) : KeepsFrom B W (W.putObj l o) := KeepsFrom.of_grownBy (grownBy_putObj' W l o) (fun j e => by cases e; exact h)
/-- The iterator g yields things x (encs x); a round keeps what Kp says; what has come in all is S. -/
def SeqOwn {α : Type} (F : Fence) (n : Nat) (P : Program) (g : Nat) (lb : Array Value) (encs : α → Array Value) (Kp : World → World → Prop) (S : List α → Prop) (N : Nat) (w : World) : Prop :=
 ∀ (l : Nat) (J : List α → World → Prop) (W : World), Below w.heap.size w W → OwnFrom W.heap.size J →
  (∀ pre x W1, J pre W1 → pre.length < N → YieldAt F (n - 1) P l (encs x) W1 fun e W' => e = .returned (.bool true) ∧ J (pre ++ [x]) W' ∧ Kp W1 W' ∧ KeepsFrom W.heap.size W1 W') →
  J [] W → CallsIn F n P g (#[.func (.yield l) #[] #[]] ++ lb) W fun e W' => (∃ v, e = .returned v) ∧ ∃ xs, S xs ∧ J xs W'

theorem wpIn_rangeOwn {α : Type} {F : Fence} {n : Nat} {P : Program} {g : Operand} {ps : Array Tmp} {assign body : Code} {Q : Exit → Act → World → Prop} {a : Act} {w : World}
  (hro : F.round = none) (h1 : 1 ≤ n) {gf : Nat} {lb : Array Value} (hg : a.eval g = .func (.func gf) #[] lb) (hFg : F.fn gf) (eg : ∀ args w, (callFunc gf args).run P w = .ok (.enter gf args) w)
  {encs : α → Array Value} {Kp : World → World → Prop} {S : List α → Prop} {N : Nat} (hseq : SeqOwn F (n - 1) P gf lb encs Kp S N w)
  (hKt : ∀ {A B C : World}, Kp A B → Kp B C → Kp A C) (hKb : ∀ (W : World) (l : Nat) (o o' : Obj), w.heap.size ≤ l → W.heap[l]? = some o → o.isCells = false → o.isWalk = false → Kp W (W.putObj l o')) (hps : ∀ x, (encs x).size = ps.size)
  (I : List α → World → Prop) (hI : OwnFrom w.heap.size I) (h0 : I [] w) (Ax : α → Act → World → Prop) (hAx : ∀ x a', OwnFrom w.heap.size (fun (_ : Unit) W => Ax x a' W))
  (hassign : ∀ (l : Nat) (pre : List α) (x : α) (W : World) (K : Act → World → Prop), I pre W → (∀ a' W', KeepsFrom w.heap.size W W' → Kp W W' → I pre W' → Ax x a' W' → K a' W') →
   assign.wpIn (F.inRound l) (n - 1 - 1) P (Exit.then K (fun _ _ _ => False)) { tmps := (ps.zip (encs x)).foldl (fun t (p, v) => t.setIfInBounds p v) a.tmps, defers := [] } W)
  (hbody : ∀ (l : Nat) (pre : List α) (x : α) (a' : Act) (W : World), w.heap.size ≤ l → (∃ r, W.heap[l]? = some (.loop r)) → I pre W → Ax x a' W → pre.length < N → body.wpIn (F.inRound l) (n - 1 - 1) P (fun e _ W3 => e = .normal ∧ KeepsFrom w.heap.size W W3 ∧ Kp W W3 ∧ I (pre ++ [x]) W3) a' W)
  (hdone : ∀ (D : Nat) (xs : List α) (W : World), w.heap.size ≤ D → S xs → I xs W → W.heap[D]? = some (.deferred (some [])) → Q .normal { a with defers := { target := .collected D, args := #[] } :: a.defers } W) :
  (Code.rangeFunc g ps assign body).wpIn F n P Q a w := by
 refine wpIn_rangeFunc fun fn hfn => ?_
 rw [hro]
 obtain ⟨rec, hrec⟩ : ∃ rec : LoopState → Loop, rec = fun st => { state := st, pending := none, fn, tmps := a.tmps, params := ps, assign, body, defers := w.heap.size } := ⟨_, rfl⟩
 have e1 : ((w.alloc (.deferred (some []))).alloc (.loop (rec .ready))).heap[w.heap.size + 1]? = some (.loop (rec .ready)) := by
  have h := World.alloc_heap_new (w.alloc (.deferred (some []))) (.loop (rec .ready))
  rwa [World.size_alloc] at h
 have e0 : ((w.alloc (.deferred (some []))).alloc (.loop (rec .ready))).heap[w.heap.size]? = some (.deferred (some [])) :=
  (Below.heap_alloc _ _ _ (by simp)).trans (World.alloc_heap_new w _)
 have i1 := hI.alloc (.loop (rec .ready)) (hI.alloc (.deferred (some [])) h0)
 have b1 : Below w.heap.size w ((w.alloc (.deferred (some []))).alloc (.loop (rec .ready))) := ((Below.refl _ w).alloc (Nat.le_refl _) _).alloc (by simp) _
 have z1 : ((w.alloc (.deferred (some []))).alloc (.loop (rec .ready))).heap.size = w.heap.size + 1 + 1 := by simp
 have en : (Instr.enterLoop fn a.tmps ps assign body none).run P w = .ok (w.heap.size + 1, [{ target := .collected w.heap.size, args := #[] }]) ((w.alloc (.deferred (some []))).alloc (.loop (rec .ready))) := by
  rw [hrec]
  exact run_enterLoop_outer _ _ _ _ _
 generalize (w.alloc (.deferred (some []))).alloc (.loop (rec .ready)) = W0 at *
 refine ⟨w.heap.size + 1, [{ target := .collected w.heap.size, args := #[] }], W0, { target := .fn (.func gf) lb, args := #[.func (.yield (w.heap.size + 1)) #[] #[]] }, W0, gf,
  #[.func (.yield (w.heap.size + 1)) #[] #[]] ++ lb, W0, en, ?_, ?_, ?_, fun _ => h1, ?_⟩
 ·simp only [resolve, hg]
  simp [go_sem]
 ·intro f hf
  simp [Target.leads] at hf
  subst hf
  exact hFg
 ·simp [invoke, go_sem, eg]
 ·refine (hseq (w.heap.size + 1) (fun pre W => I pre W ∧ W.heap[w.heap.size + 1]? = some (.loop (rec .ready)) ∧ W.heap[w.heap.size]? = some (.deferred (some []))) W0 b1
   (fun s A B row hs hg hr => ⟨hI s A B row hs.1 hg (fun r e => ⟨Nat.le_trans b1.size (hr r e).1, (hr r e).2⟩), (hg.block _ (Array.getElem?_eq_some_iff.1 hs.2.1).1 (fun e => by have := (hr _ e.symm).1; omega)).trans hs.2.1, (hg.block _ (Array.getElem?_eq_some_iff.1 hs.2.2).1 (fun e => by have := (hr _ e.symm).1; omega)).trans hs.2.2⟩)
   ?_ ⟨i1, e1, e0⟩).mono ?_
  ·rintro pre x W ⟨hi, hl, hk⟩ hlen
   have hy := run_yield (P := P) (args := encs x) hl (by rw [hrec]; exact hps x)
   rw [hrec] at hy
   refine ⟨fn, _, assign, body, hy, roundIn_of_wpIn hfn (hassign _ pre x W _ hi fun a' V kf kp hiV hax => ?_)⟩
   have lV := kf.same _ _ (Nat.le_succ _) hl rfl
   have kV := kf.same _ _ (Nat.le_refl _) hk rfl
   have ltV := (Array.getElem?_eq_some_iff.1 lV).1
   refine ⟨_, run_beginRound lV (by rw [hrec]), ?_⟩
   have lU : (V.putObj (w.heap.size + 1) (.loop { rec .ready with state := .busy })).heap[w.heap.size + 1]? = some (.loop { rec .ready with state := .busy }) := World.putObj_heap_same ltV
   have kU : (V.putObj (w.heap.size + 1) (.loop { rec .ready with state := .busy })).heap[w.heap.size]? = some (.deferred (some [])) := (World.putObj_heap_other (by omega)).trans kV
   refine wpIn_mono (hbody _ pre x a' _ (Nat.le_succ _) ⟨_, lU⟩ (hI.putObj _ hiV (Nat.le_succ _) lV rfl) ((hAx x a').putObj (s := ()) _ hax (Nat.le_succ _) lV rfl) hlen) ?_
   rintro e a3 W3 ⟨rfl, kf3, kp3, hi3⟩
   have l3 := kf3.same _ _ (Nat.le_succ _) lU rfl
   have k3 := kf3.same _ _ (Nat.le_refl _) kU rfl
   have er := run_endRound (P := P) none l3
   refine ⟨_, _, er, rfl, ⟨hI.putObj _ hi3 (Nat.le_succ _) l3 rfl, ?_, (World.putObj_heap_other (by omega)).trans k3⟩, hKt kp (hKt (hKt (hKb _ _ _ _ (Nat.le_succ _) lV rfl rfl) kp3) (hKb _ _ _ _ (Nat.le_succ _) l3 rfl rfl)), (((keepsMore kf (by omega)).trans (keepsFrom_put (by omega))).trans (keepsMore kf3 (by omega))).trans (keepsFrom_put (by omega))⟩
   rw [World.putObj_heap_same (Array.getElem?_eq_some_iff.1 l3).1, hrec]
   rfl
  ·rintro e W2 ⟨⟨v, rfl⟩, xs, hS, hi, hl, hk⟩
   have el := run_endLoop (P := P) hl (by rw [hrec]; simp)
   rw [hrec] at el
   exact ⟨none, _, el, hdone _ xs _ (Nat.le_refl _) hS (hI.putObj _ hi (Nat.le_succ _) hl rfl) ((World.putObj_heap_other (by omega)).trans hk)⟩
theorem SeqStopsK.own {α : Type} {F : Fence} {n : Nat} {P : Program} {g : Nat} {lb : Array Value} {encs : α → Array Value} {Kp : World → World → Prop} {S Sp : List α → Prop} {N : Nat} {w : World} (h : SeqStopsK F n P g lb encs Kp S Sp N w) : SeqOwn F n P g lb encs Kp S N w :=
 fun l J W hW hJ hY h0 => (h l J (fun _ _ => False) W hW (fun s A B row hs hg hr => hJ s A B row hs hg fun r e => ⟨(hr r e).1, by obtain ⟨o, h1, h2⟩ := (hr r e).2; exact ⟨o, h1, Obj.not_cells_of_walk h2⟩⟩) (fun s A B row hs _ _ => hs.elim)
  (fun pre x W1 hj hl => (hY pre x W1 hj hl).mono fun e W' h => .inl ⟨h.1, h.2.1, h.2.2.1⟩) h0).mono fun e W' ⟨h1, h2⟩ => ⟨h1, h2.resolve_right fun ⟨_, _, h⟩ => h.elim⟩

end Go.Proofs.Ythofngceiecniaa
/- slices.Collect at ints, whatever the iterator; slices.Min, slices.Max; mix.between. -/
namespace Go.Proofs.Ythofngceiecniaa
open Go.RowKit Go.Shelf
attribute [local go_sem] Oper.semAt_some

theorem keepsFrom_grown {B : Nat} {W W' : World} {row : Option Nat} (hg : W.grownBy W' row) (hr : ∀ r, row = some r → ∃ t cs, Blk W r t cs) : KeepsFrom B W W' :=
 ⟨hg.size, fun k o _ hk hc => (hg.block k (Array.getElem?_eq_some_iff.1 hk).1 (fun e => by
  obtain ⟨t, cs, hb⟩ := hr k e.symm
  unfold Blk at hb
  rw [hb] at hk
  cases hk
  cases hc)).trans hk⟩
theorem own_setCell {w : World} {base n cap size : Nat} {e : TypeId} {A : Option Addr} {xs : List Value} (h : Own w base e size A n cap xs) {p : Addr} (hp : p.block < base) (u : Value) : Own (w.setCell p u) base e size A n cap xs := by
 refine ⟨h.1, ?_⟩
 rcases h.2 with h' | ⟨g, cap', cur, hv, hb, hg, hr⟩
 ·exact .inl h'
 ·exact .inr ⟨g, cap', cur, hv, hb, (Below.heap_setCell w p u g (by omega)).trans hg, hr⟩
theorem own_blk {w : World} {base n cap size : Nat} {e : TypeId} {A : Option Addr} {xs : List Value} (h : Own w base e size A n cap xs) : ∀ r, A.map (·.block) = some r → ∃ t cs, Blk w r t cs := by
 intro r hr
 rcases h.form with ⟨rfl, _⟩ | ⟨g, cur, rfl, _, hb, _⟩
 ·cases hr
 ·cases hr; exact ⟨_, _, hb⟩

abbrev Pn (P : Int → Prop) := { n : Int // P n }
def PAll {P : Int → Prop} (xs : List (Pn P)) : Prop := ∀ n, P n → ∃ y ∈ xs, y.1 = n
def encI {P : Int → Prop} (y : Pn P) : Array Value := #[.int .i64 y.1]
def valP {P : Int → Prop} (y : Pn P) : Value := .int .i64 y.1
/-- Cells of other types than a collector's own. -/
def KeepsT (W W' : World) : Prop := ∀ (b : Nat) (cs : Array Value) (t : TypeId) (fr : Nat × Nat), t ≠ 3 → t ≠ 57 → W.heap[b]? = some (.cells cs t fr) → W'.heap[b]? = some (.cells cs t fr)
def KeepB (n₀ : Nat) (W W' : World) : Prop := Below n₀ W W' ∧ KeepsWalks W W' ∧ KeepsT W W'
theorem KeepB.refl (n₀ : Nat) (W : World) : KeepB n₀ W W := ⟨Below.refl _ _, KeepsWalks.refl _, fun _ _ _ _ _ _ h => h⟩
theorem KeepB.trans {n₀ : Nat} {A B C : World} (h : KeepB n₀ A B) (k : KeepB n₀ B C) : KeepB n₀ A C := ⟨h.1.trans k.1, h.2.1.trans k.2.1, fun b cs t fr h1 h2 h3 => k.2.2 b cs t fr h1 h2 (h.2.2 b cs t fr h1 h2 h3)⟩
theorem KeepB.put {n₀ : Nat} {w : World} (hn : n₀ ≤ w.heap.size) (W : World) (l : Nat) (o o' : Obj) (hl : w.heap.size ≤ l) (h : W.heap[l]? = some o) (hc : o.isCells = false) (hw : o.isWalk = false) : KeepB n₀ W (W.putObj l o') :=
 ⟨belowK_b hn W l o o' hl h hc hw, walksK_b W l o o' hl h hc hw, fun b cs t fr _ _ hb => cells_put h hc b cs t fr hb⟩
theorem keepsT_below {W W' : World} (h : Below W.heap.size W W') : KeepsT W W' := fun b cs t fr _ _ hb => (h.block b (Array.getElem?_eq_some_iff.1 hb).1).trans hb
theorem keepsT_grown {W W' : World} {row : Option Nat} (hg : W.grownBy W' row) (hr : ∀ r, row = some r → ∃ cs, Blk W r 3 cs ∨ Blk W r 57 cs) : KeepsT W W' := fun b cs t fr h1 h2 hb => by
 refine (hg.block b (Array.getElem?_eq_some_iff.1 hb).1 (fun e => ?_)).trans hb
 obtain ⟨cs', h | h⟩ := hr b e.symm
 ·unfold Blk at h; rw [hb] at h; cases h; exact h1 rfl
 ·unfold Blk at h; rw [hb] at h; cases h; exact h2 rfl
theorem SeqOwn.later {α : Type} {F : Fence} {n : Nat} {P : Program} {g : Nat} {lb : Array Value} {encs : α → Array Value} {Kp : World → World → Prop} {S : List α → Prop} {N : Nat} {w w' : World} (h : SeqOwn F n P g lb encs Kp S N w) (hb : Below w.heap.size w w') : SeqOwn F n P g lb encs Kp S N w' :=
 fun l J W hW => h l J W (hb.trans (hW.mono hb.size))
theorem own_rowS {w : World} {base n cap size k : Nat} {e : TypeId} {A : Option Addr} {xs : List Value} (h : Own w base e size A n cap xs) (hk : A.map (·.block) = some k) : base ≤ k := by
 cases A with
 | none => cases hk
 | some a => cases hk; exact (h.lt rfl).1
inductive FrS (v0 v1 v2 v5 : Value) : Act → Prop
 | mk (u3 u4 u6 u7 u8 u9 u10 u11 u12 : Value) : FrS v0 v1 v2 v5 { tmps := #[v0, v1, v2, u3, u4, v5, u6, u7, u8, u9, u10, u11, u12], defers := [] }
set_option maxRecDepth 100000 in
set_option maxHeartbeats 4000000 in
theorem appendSeq_in {P : Int → Prop} (F : FuncId) (C : Array Value) (N : Nat) (w : World) (hN : N ≤ 1000000) (hE : ∀ args W, (callFunc F args).run Try.prog W = .ok (.enter F args) W) (hseq : ∀ n, 3 ≤ n → SeqOwn Fence.wide n Try.prog F C (encI (P := P)) (KeepB w.heap.size) PAll N w) :
  CallsIn Fence.wide 9 Try.prog 115 #[.slice none 0 0, .func (.func F) #[] C] w fun e w' =>
   ∃ (B : Option Addr) (q : Nat) (l : List Int), e = .returned (.slice B l.length q) ∧ IntsAt w' w'.heap.size B l.length l ∧ (∀ n, n ∈ l ↔ P n) ∧ l.length ≤ 1000000 ∧ Below w.heap.size w w' := by
 have HQ := Lib.hid hseq
 clear hseq
 refine callsIn_of_wp_marks Try.func115 rfl trivial ?_ rfl
 simp only [Try.ntmps115, List.size_toArray, List.length_cons, List.length_nil, Nat.reduceAdd, Nat.reduceSub, Array.replicate_succ, Array.replicate_zero, List.push_toArray, List.append_toArray, List.nil_append, List.cons_append]
 gi_wp2
 have B0 := Blk.new w 57 #[.slice none 0 0]
 have b0 : Below w.heap.size w (w.alloc (.cells #[.slice none 0 0] 57)) := (Below.refl _ _).alloc (Nat.le_refl _) _
 have z0 : w.heap.size + 1 ≤ (w.alloc (.cells #[.slice none 0 0] 57)).heap.size := by simp
 generalize (w.alloc (.cells #[.slice none 0 0] 57)) = w0 at *
 refine wpIn_rangeOwn rfl (by omega) (gf := F) (lb := C) rfl trivial hE
  ((HQ.out 8 (by omega)).later b0) KeepB.trans (KeepB.put (by omega)) (fun _ => rfl)
  (fun pre Wr => ∃ (B : Option Addr) (q : Nat), Blk Wr w.heap.size 57 #[.slice B pre.length q] ∧ Own Wr (w.heap.size + 1) 3 1 B pre.length q (pre.map valP) ∧ Below w.heap.size w Wr ∧ w0.heap.size ≤ Wr.heap.size ∧ pre.length ≤ N)
  (ownFrom_shut (fun s Wr h => by obtain ⟨B, q, _, _, _, h, _⟩ := h; exact h) (fun s Wr Wr' h hs => by
   obtain ⟨B, q, h1, h2, h3, h4, h5⟩ := h
   refine ⟨B, q, hs.blk h1, ?_, h3.trans (hs.below.mono b0.size), Nat.le_trans h4 hs.below.size, h5⟩
   refine ⟨h2.1, ?_⟩
   rcases h2.2 with h' | ⟨g, cap', cur, hv, hb, hg, hr⟩
   ·exact .inl h'
   ·exact .inr ⟨g, cap', cur, hv, hb, hs.cells _ _ _ _ hg, hr⟩))
  ⟨none, 0, B0, Own.none_ _ _ _ _, b0, Nat.le_refl _, Nat.zero_le _⟩
  (fun y a' Wr => FrS (.slice none 0 0) (.func (.func F) #[] C) (.pointer (some ⟨w.heap.size, 0, none⟩)) (.int .i64 y.1) a')
  (fun y a' => ownFrom_pure _ _) ?assign ?body ?done
 case assign =>
  intro l' pre x W K hI hK
  unfold encI
  gi_wp2
  exact hK _ _ (KeepsFrom.refl _ _) (KeepB.refl _ _) hI (by constructor)
 case body =>
  rintro l' pre ⟨x, hxP⟩ a' W hl' ⟨rr, hrr⟩ ⟨B, q, h1, h2, h3, h4, h5⟩ ha' hlen
  cases ha'
  dsimp only at *
  have HLN := Lib.hid hlen
  have c0 := h1.cell 0
  have c1 := h1.frozen 0
  have H1 := Lib.hid h1
  have HOW := Lib.hid (h2.alloc (.cells #[.int .i64 x] 3))
  have HOB : Hid (Blk (W.alloc (.cells #[.int .i64 x] 3)) W.heap.size 3 #[.int .i64 x]) := Lib.hid (Blk.new _ _ _)
  have H3 := Lib.hid h3
  have hs1 := h1.lt
  clear h1 h2 h3 hrr hlen h5
  gi_wp2_with (first | (gi_at_builtin; refine wpListIn_append_any rfl (.tmp 8) (.tmp 10) (by rfl) elem_int rfl HOW.out rfl (one_int (x := x) HOB.out.lt (HOB.out.cell 0)) (ints_one _) (by have := HLN.out; unfold maxLen; omega) (by have := HLN.out; omega) (by simp; omega) ?_) | fail)
  rintro A8 c8 W8 hown hgr hA8
  have hal : Below W.heap.size W (W.alloc (.cells #[.int .i64 x] 3)) := (Below.refl _ _).alloc (Nat.le_refl _) _
  have hne : some w.heap.size ≠ B.map (·.block) := by
   intro e
   cases B with
   | none => cases e
   | some a =>
    have h5 := (HOW.out.lt rfl).1
    simp at e
    omega
  have HB8 := Lib.hid ((H1.out.alloc (.cells #[.int .i64 x] 3)).grown hgr hne)
  have HO8 := Lib.hid hown
  have HK8 := Lib.hid (show KeepsFrom w0.heap.size W W8 from (keepsFrom_below hal).trans (keepsFrom_grown hgr (own_blk HOW.out)))
  have HL8 := Lib.hid (show Below w.heap.size W W8 from (hal.mono (by omega)).grown hgr (by simp; omega) (fun j hj => by have := own_rowS HOW.out hj; omega))
  have HW8 := Lib.hid (show KeepsWalks W W8 from (KeepsWalks.alloc W _).trans (KeepsOthers.of_grownBy hgr (fun j o e ho => by obtain ⟨t, cs, hb⟩ := own_blk HOW.out j e; unfold Blk at hb; rw [hb] at ho; cases ho; rfl)).walks)
  have HT8 := Lib.hid (show KeepsT W W8 from fun b cs t fr k1 k2 k3 => keepsT_grown hgr (fun r e => by
   rcases HOW.out.form with ⟨rfl, _⟩ | ⟨g, cur, rfl, _, hb, _⟩
   ·cases e
   ·cases e; exact ⟨_, .inl hb⟩) b cs t fr k1 k2 (keepsT_below hal b cs t fr k1 k2 k3))
  have d0 := HB8.out.cell 0
  have d1 := HB8.out.frozen 0
  clear hown hgr hA8 hal hne
  gi_wp2
  have hk9 := HK8.out.trans (keepsFrom_setCell w0.heap.size W8 ⟨w.heap.size, 0, none⟩ (.slice A8 (pre.length + 1) c8))
  have hb9 : Below w.heap.size W (W8.setCell ⟨w.heap.size, 0, none⟩ (.slice A8 (pre.length + 1) c8)) := HL8.out.setCell (p := ⟨w.heap.size, 0, none⟩) (Nat.le_refl _) _
  refine ⟨hk9, ⟨hb9, HW8.out.trans (KeepsWalks.setCell _ _ _), fun b cs t fr k1 k2 k3 => keepsT_grown (grown_setCell (row := some w.heap.size) (grown_refl W8 _) (p := ⟨w.heap.size, 0, none⟩) (.inl rfl) _) (fun r e => ⟨_, .inr (by cases e; exact HB8.out)⟩) b cs t fr k1 k2 (HT8.out b cs t fr k1 k2 k3)⟩, A8, c8, ?_, ?_, H3.out.trans hb9, by first | exact Nat.le_trans h4 hk9.size | (have := hk9.size; simp at this ⊢; omega), by first | exact HLN.out | (rw [List.length_append, List.length_singleton]; exact HLN.out)⟩
  ·have := HB8.out.set_ 0 (.slice A8 (pre.length + 1) c8)
   simpa using this
  ·exact own_setCell HO8.out (Nat.lt_succ_self _) _
 case done =>
  rintro D ys Wr hD hys ⟨B, q, h1, h2, h3, h4, h5⟩ hK
  have c0 := h1.cell 0
  have hs1 := h1.lt
  have hmk : Marks w.heap.size Wr [{ target := .collected D, args := #[] }] := ⟨⟨D, by omega, rfl, hK, by simp⟩, trivial⟩
  have H2 := Lib.hid h2
  have H3 := Lib.hid h3
  clear h1 h2 h3 hK
  gi_wp2
  refine leaves_marksD _ _ hmk ?_
  intro w' hs
  have hO := hs.own H2.out
  refine ⟨.slice B ys.length q, by simp [results, Try.results115, go_sem], B, q, ys.map Subtype.val, by rw [List.length_map], ?_, fun n => ⟨fun hn => ?_, fun hn => ?_⟩, by rw [List.length_map]; omega, H3.out.trans hs.below⟩
  ·rw [List.length_map]
   have h6 := hO.reads (B := w'.heap.size) (Nat.le_refl _)
   unfold IntsAt
   rw [List.map_map]
   exact h6
  ·obtain ⟨y, _, rfl⟩ := List.mem_map.1 hn
   exact y.2
  ·obtain ⟨y, hy, e⟩ := hys n hn
   exact List.mem_map.2 ⟨y, hy, e⟩
end Go.Proofs.Ythofngceiecniaa
/- slices.Collect, slices.Min, slices.Max at ints; mix.between. -/
namespace Go.Proofs.Ythofngceiecniaa
open Go.RowKit Go.Shelf

def MinOf (l : List Int) (e : Ending) : Prop := ∃ x, e = .returned (.int .i64 x) ∧ x ∈ l ∧ ∀ y ∈ l, x ≤ y
def MaxOf (l : List Int) (e : Ending) : Prop := ∃ x, e = .returned (.int .i64 x) ∧ x ∈ l ∧ ∀ y ∈ l, y ≤ x

set_option maxHeartbeats 1000000 in
theorem mini_any (A : Option Addr) (n c : Nat) (l : List Int) (w : World) (hr : IntsAt w w.heap.size A n l) (hn : 0 < n) (hm : n ≤ 1000000) :
  Calls Try.prog 88 #[.slice A n c] w fun e w' => (MinOf l e) ∧ w = w' := by
 obtain ⟨b, off, x0, rfl, hb, hx0, hc0⟩ := hr.cell hn
 have hl := hr.len
 have hn1 : (1 : Int) ≤ n := by omega
 rw [Nat.add_zero] at hc0
 have HX0 := Lib.hid hx0
 clear hx0
 go_enter Try.func88, Try.ntmps88
 go_wp2_with fail
 go_loop [3, 4] (fun v i => ∃ (k : Nat) (x : Int), (1 ≤ k ∧ k ≤ n) ∧ i = .int .i64 k ∧ v = .int .i64 x ∧ Hid (x ∈ l.take k ∧ ∀ y ∈ l.take k, x ≤ y)) (fun _ i => n - (intOf i).toNat)
 case atStart =>
  refine ⟨1, x0, ⟨Nat.le_refl _, hn⟩, rfl, rfl, Lib.hid ?_⟩
  have h1 : l.take 1 = [x0] := by
   cases l with
   | nil => have := HX0.out; simp at this
   | cons a l => have := HX0.out; simp at this; rw [this]; rfl
  rw [h1]
  exact ⟨by simp, fun y hy => by have := List.mem_singleton.1 hy; omega⟩
 case round =>
  obtain ⟨k, x, ⟨hk1, hk⟩, rfl, rfl, HM⟩ := hrel
  by_cases hlt : k < n
  ·obtain ⟨b', off', y, e, hb', hy, hc⟩ := hr.cell hlt
   obtain ⟨rfl, rfl⟩ : b = b' ∧ off = off' := by simpa using e
   have HY := Lib.hid hy
   clear hy e
   go_wp2_with fail
   go_round
   case rel =>
    refine ⟨k + 1, min x y, ⟨by omega, by omega⟩, by go_num, rfl, Lib.hid ?_⟩
    have h1 : l.take (k + 1) = l.take k ++ [y] := by rw [List.take_add_one, HY.out]; rfl
    rw [h1]
    refine ⟨?_, fun z hz => ?_⟩
    ·rcases (show min x y = x ∨ min x y = y from by omega) with h | h
     ·rw [h]; exact List.mem_append_left _ HM.out.1
     ·rw [h]; simp
    ·rcases List.mem_append.1 hz with hz | hz
     ·have := HM.out.2 z hz; omega
     ·have := List.mem_singleton.1 hz; omega
   case measure => simp [intOf]; omega
  ·go_wp2_with fail
   go_ret
   have h1 : l.take k = l := List.take_of_length_le (by omega)
   have h2 := HM.out
   rw [h1] at h2
   exact ⟨⟨x, rfl, h2⟩, rfl⟩

set_option maxHeartbeats 1000000 in
theorem maxi_any (A : Option Addr) (n c : Nat) (l : List Int) (w : World) (hr : IntsAt w w.heap.size A n l) (hn : 0 < n) (hm : n ≤ 1000000) :
  Calls Try.prog 89 #[.slice A n c] w fun e w' => (MaxOf l e) ∧ w = w' := by
 obtain ⟨b, off, x0, rfl, hb, hx0, hc0⟩ := hr.cell hn
 have hl := hr.len
 have hn1 : (1 : Int) ≤ n := by omega
 rw [Nat.add_zero] at hc0
 have HX0 := Lib.hid hx0
 clear hx0
 go_enter Try.func89, Try.ntmps89
 go_wp2_with fail
 go_loop [3, 4] (fun v i => ∃ (k : Nat) (x : Int), (1 ≤ k ∧ k ≤ n) ∧ i = .int .i64 k ∧ v = .int .i64 x ∧ Hid (x ∈ l.take k ∧ ∀ y ∈ l.take k, y ≤ x)) (fun _ i => n - (intOf i).toNat)
 case atStart =>
  refine ⟨1, x0, ⟨Nat.le_refl _, hn⟩, rfl, rfl, Lib.hid ?_⟩
  have h1 : l.take 1 = [x0] := by
   cases l with
   | nil => have := HX0.out; simp at this
   | cons a l => have := HX0.out; simp at this; rw [this]; rfl
  rw [h1]
  exact ⟨by simp, fun y hy => by have := List.mem_singleton.1 hy; omega⟩
 case round =>
  obtain ⟨k, x, ⟨hk1, hk⟩, rfl, rfl, HM⟩ := hrel
  by_cases hlt : k < n
  ·obtain ⟨b', off', y, e, hb', hy, hc⟩ := hr.cell hlt
   obtain ⟨rfl, rfl⟩ : b = b' ∧ off = off' := by simpa using e
   have HY := Lib.hid hy
   clear hy e
   go_wp2_with fail
   go_round
   case rel =>
    refine ⟨k + 1, max x y, ⟨by omega, by omega⟩, by go_num, rfl, Lib.hid ?_⟩
    have h1 : l.take (k + 1) = l.take k ++ [y] := by rw [List.take_add_one, HY.out]; rfl
    rw [h1]
    refine ⟨?_, fun z hz => ?_⟩
    ·rcases (show max x y = x ∨ max x y = y from by omega) with h | h
     ·rw [h]; exact List.mem_append_left _ HM.out.1
     ·rw [h]; simp
    ·rcases List.mem_append.1 hz with hz | hz
     ·have := HM.out.2 z hz; omega
     ·have := List.mem_singleton.1 hz; omega
   case measure => simp [intOf]; omega
  ·go_wp2_with fail
   go_ret
   have h1 : l.take k = l := List.take_of_length_le (by omega)
   have h2 := HM.out
   rw [h1] at h2
   exact ⟨⟨x, rfl, h2⟩, rfl⟩

/-- What between hands back. -/
def SpanOut (w : World) (P : Int → Prop) (e : Ending) (w' : World) : Prop := ∃ lo hi : Int, e = .returned (.agg #[.int .i64 lo, .int .i64 hi]) ∧ IsSpan P (lo, hi) ∧ Below w.heap.size w w'
set_option maxHeartbeats 2000000 in
set_option maxRecDepth 100000 in
theorem between_any {P : Int → Prop} (F : FuncId) (C : Array Value) (N : Nat) (w : World) (hN : N ≤ 1000000) (hE : ∀ args W, (callFunc F args).run Try.prog W = .ok (.enter F args) W) (hP : ∃ n, P n)
  (hseq : ∀ (w1 : World), Below w.heap.size w w1 → ∀ n, 3 ≤ n → SeqOwn Fence.wide n Try.prog F C (encI (P := P)) (KeepB w1.heap.size) PAll N w1) :
  Calls Try.prog 42 #[.func (.func F) #[] C] w (SpanOut w P) := by
 have hb0 : Below w.heap.size w (w.alloc (.cells #[.int .i64 0, .int .i64 0] 30)) := (Below.refl _ _).alloc (Nat.le_refl _) _
 have hz : w.heap.size < (w.alloc (.cells #[.int .i64 0, .int .i64 0] 30)).heap.size := by simp
 have HB := Lib.hid (Blk.new w 30 #[.int .i64 0, .int .i64 0])
 have HL := Lib.hid hb0
 have HZ := Lib.hid hz
 have h := callsIn_wide.1 (appendSeq_in F C N _ hN hE (hseq _ hb0))
 go_enter Try.func42, Try.ntmps42
 go_wp2_with fail
 clear hb0 hz hseq
 generalize (w.alloc (.cells #[.int .i64 0, .int .i64 0] 30)) = w0 at *
 have h2 : Calls Try.prog 87 #[.func (.func F) #[] C] w0 fun e w' => ∃ (B : Option Addr) (q : Nat) (l : List Int), e = .returned (.slice B l.length q) ∧ IntsAt w' w'.heap.size B l.length l ∧ (∀ n, n ∈ l ↔ P n) ∧ l.length ≤ 1000000 ∧ Below w0.heap.size w0 w' := by
  go_enter Try.func87, Try.ntmps87
  go_wp2_with (go_at_call 115; refine h.mono ?_; rintro e w' ⟨B, q, l, rfl, hr⟩)
  go_ret
  exact ⟨B, q, l, rfl, hr⟩
 clear h
 refine h2.mono ?_
 rintro e w1 ⟨B, q, l, rfl, hr, hl, hs, hb⟩
 have HR := Lib.hid hr
 have HM := Lib.hid hl
 have HS := Lib.hid hs
 have HB1 := Lib.hid (HB.out.below hb HZ.out)
 have HL1 := Lib.hid (HL.out.trans (hb.mono HL.out.size))
 have hne : 0 < l.length := by
  obtain ⟨n, hn⟩ := hP
  exact List.length_pos_of_mem ((hl n).2 hn)
 have HNE := Lib.hid hne
 obtain ⟨N1, hN1⟩ : ∃ N1, l.length = N1 := ⟨_, rfl⟩
 have HN1 := Lib.hid hN1
 rw [hN1]
 clear h2 hr hl hs hb hne hN1
 go_wp2_with fail
 refine (mini_any B N1 q l w1 (by rw [← HN1.out]; exact HR.out) (by rw [← HN1.out]; exact HNE.out) (by rw [← HN1.out]; exact HS.out)).mono ?_
 rintro e w2 ⟨⟨lo, rfl, h1, h2⟩, rfl⟩
 have HLO := Lib.hid (And.intro h1 h2)
 clear h1 h2
 go_wp2_with fail
 refine (maxi_any B N1 q l w1 (by rw [← HN1.out]; exact HR.out) (by rw [← HN1.out]; exact HNE.out) (by rw [← HN1.out]; exact HS.out)).mono ?_
 rintro e w2 ⟨⟨hi, rfl, h1, h2⟩, rfl⟩
 have HHI := Lib.hid (And.intro h1 h2)
 clear h1 h2
 have z0 := HB1.out.frozen 0
 have z1 := HB1.out.frozen 1
 have y0 := HB1.out.cell 0
 have y1 := HB1.out.cell 1
 have zl := HB1.out.lt
 go_wp2_with fail
 have R2 := ret2' HB1.out HL1.out (Nat.le_refl _) (.int .i64 lo) (.int .i64 hi)
 have v0 := R2.1.cell 0
 have v1 := R2.1.cell 1
 refine bodyPost_ret (v := .agg #[.int .i64 lo, .int .i64 hi]) (by simp [results, Try.results42, go_sem, v0, v1]) rfl ?_
 exact ⟨lo, hi, rfl, ⟨(HM.out _).1 HLO.out.1, (HM.out _).1 HHI.out.1, fun n hn => ⟨HLO.out.2 n ((HM.out n).2 hn), HHI.out.2 n ((HM.out n).2 hn)⟩⟩, R2.2.1⟩
end Go.Proofs.Ythofngceiecniaa
/- mix.placed. -/
namespace Go.Proofs.Ythofngceiecniaa
open Go.RowKit
/-- What placed tells. -/
def PlacedOut (MA : World → Nat → Prop) (w : World) (m : Mix) (vessel after : Int) (fs : List Int) (e : Ending) (w' : World) : Prop :=
 ∃ p s1 s2, e = .returned (.tuple #[.pointer p, .agg #[.int .i64 s1, .int .i64 s2], .int .i64 (askM m vessel after fs)]) ∧ Below w.heap.size w w' ∧ (askM m vessel after fs = 0 → okMix m = true ∧ s1 = idxV m.vessels vessel ∧ s2 = after ∧ 0 ≤ s1 ∧ (0 ≤ after ∧ after ≤ m.acts.length) ∧
  ∃ T : Tb, p = some ⟨T.g, 0, none⟩ ∧ T.m = m ∧ allM m m.acts = some T.L ∧ w.heap.size ≤ T.g ∧ TbOwn w' w.heap.size T ∧ ∀ W B, MA W B → MixAt W B T.Av T.nv T.Aa T.na T.At T.nt T.m)
section
variable {MA : World → Nat → Prop} {w w' : World} {m : Mix} {vessel after a b : Int} {fs : List Int}
theorem PlacedOut.bad {p : Option Addr} (h : askM m vessel after fs ≠ 0) (hb : Below w.heap.size w w') : PlacedOut MA w m vessel after fs (.returned (.tuple #[.pointer p, .agg #[.int .i64 a, .int .i64 b], .int .i64 (askM m vessel after fs)])) w' :=
 ⟨_, _, _, rfl, hb, fun h' => absurd h' h⟩
end
theorem TbOwn.off {W W' : World} {T : Tb} {B B1 g0 : Nat} (hT : TbOwn W B1 T) (hg : W.grownBy W' (some g0)) (hg0 : g0 < B1) (hB : B ≤ B1) (hm : MixAt W' B T.Av T.nv T.Aa T.na T.At T.nt T.m) : TbOwn W' B T :=
 ⟨hT.blk.grown hg (fun e => by have := hT.le.2; cases e; omega), hm, (hT.own.grown hg (fun a ha e => by have := (hT.own.lt ha).1; have := Option.some.inj e; omega)).mono hB, hT.ne, ⟨Nat.le_trans hB (Nat.le_trans hT.le.1 hg.size), Nat.le_trans hB hT.le.2⟩, hT.small⟩

end Go.Proofs.Ythofngceiecniaa
/- mix.Of, mix.Known, mix.Pure. -/
namespace Go.Proofs.Ythofngceiecniaa
open Go.RowKit
theorem nodup_leN : ∀ {a b : List Nat}, a.Nodup → (∀ x ∈ a, x ∈ b) → a.length ≤ b.length
 | [], _, _, _ => by simp
 | x :: a, b, h, hs => by
  rw [List.nodup_cons] at h
  have hb : x ∈ b := hs x (by simp)
  have := nodup_leN (a := a) (b := b.erase x) h.2 (fun y hy => (List.mem_erase_of_ne (fun e => h.1 (by rw [← e]; exact hy))).2 (hs y (by simp [hy])))
  rw [List.length_erase_of_mem hb] at this
  have h0 : 0 < b.length := List.length_pos_of_mem hb
  simp; omega
def D4.num (x : D4) : Nat := x.a.toNat + 13 * x.b.toNat + 169 * x.c.toNat + 2197 * x.d.toNat
theorem can_len {m : List (D4 × Bool)} (hn : (m.map Prod.fst).Nodup) (h : ∀ p ∈ m, (0 ≤ p.1.a ∧ p.1.a ≤ 12) ∧ (0 ≤ p.1.b ∧ p.1.b ≤ 12) ∧ (0 ≤ p.1.c ∧ p.1.c ≤ 12) ∧ (0 ≤ p.1.d ∧ p.1.d ≤ 12)) : m.length ≤ 28561 := by
 have h1 : (m.map fun p => p.1.num).Nodup := by
  rw [List.Nodup, List.pairwise_map] at hn ⊢
  refine hn.imp_of_mem fun {p q} hp hq hne e => hne ?_
  have a := h p hp
  have b := h q hq
  obtain ⟨⟨x1, x2, x3, x4⟩, _⟩ := p
  obtain ⟨⟨y1, y2, y3, y4⟩, _⟩ := q
  unfold D4.num at e
  dsimp only at a b e ⊢
  congr 1 <;> omega
 have h2 := nodup_leN (b := List.range 28561) h1 (fun x hx => by
  obtain ⟨p, hp, rfl⟩ := List.mem_map.1 hx
  have a := h p hp
  unfold D4.num
  rw [List.mem_range]
  omega)
 simpa using h2
end Go.Proofs.Ythofngceiecniaa
