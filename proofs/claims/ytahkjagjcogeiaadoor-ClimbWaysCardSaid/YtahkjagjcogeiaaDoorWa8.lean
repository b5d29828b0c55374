/- Part 8 of the texts of this claim, joined. -/
import Derived.Test.YtahkjagjcogeiaaDoorWa7
/- climb.chart.all: the first walks from a place to all others. -/
namespace Go.Proofs.YtahkjagjcogeiaaDoor
open Go.RowKit Go.Shelf
attribute [local go_sem] Oper.semAt_some
set_option linter.unusedVariables false

/-- What is right about the walks of a map. -/
structure WkOk (W : World) (p : Int × Wk) : Prop where
  to : p.2.to = p.1
  ok : okI p.1
  len : p.2.n = p.2.links.length
  short : p.2.n ≤ 9
  at_ : p.2.at_ W W.heap.size
  typ : ∀ a, p.2.A = some a → ∃ cs, Blk W a.block 3 cs
theorem WkOk.below {W W' : World} {p : Int × Wk} (h : WkOk W p) (hb : Below W.heap.size W W') : WkOk W' p := ⟨h.to, h.ok, h.len, h.short, h.at_.below hb hb.size, fun a ha => by obtain ⟨cs, h1⟩ := h.typ a ha; exact ⟨cs, h1.below hb h1.lt⟩⟩
/-- Blocks that lay stay but for some maps and one box: what reads ints, stays. -/
theorem ints_keep {W W' : World} {B n : Nat} {A : Option Addr} {l : List Int} (h : IntsAt W B A n l) (hk : ∀ (b : Nat) cs t fr, W.heap[b]? = some (.cells cs t fr) → b < B → W'.heap[b]? = some (.cells cs t fr)) : IntsAt W' B A n l := by
  refine ⟨h.1, fun hn => ?_⟩
  obtain ⟨ad, e, hb, hc⟩ := h.2 hn
  refine ⟨ad, e, hb, fun j u hu => ?_⟩
  have h1 := hc j u hu
  obtain ⟨o, ho, hcell⟩ := cells_of_cell h1
  rw [← h1]
  refine World.cell?_of_block ?_
  rw [ho]
  cases o <;> simp [Obj.isCells] at hcell
  exact hk _ _ _ _ ho (by rw [block_of_add]; exact hb)

structure AllSt (w : World) (BS : Nat) (T : Array Value) (ms mo : List (Int × Wk)) (W : World) : Prop where
  bel : Below w.heap.size w W
  ch : Blk W w.heap.size 115 T
  bs : Blk W BS 113 #[.map (some (w.heap.size + 1))]
  bo : Blk W (BS + 1) 113 #[.map (some (w.heap.size + 1 + 1))]
  mapS : WkMap W (w.heap.size + 1) ms
  mapO : WkMap W (w.heap.size + 1 + 1) mo
  oks : ∀ p ∈ ms, WkOk W p
  oko : ∀ p ∈ mo, WkOk W p
section
variable {w W W' : World} {BS : Nat} {T : Array Value} {ms mo : List (Int × Wk)}
theorem AllSt.below (h : AllSt w BS T ms mo W) (hb : Below W.heap.size W W') : AllSt w BS T ms mo W' :=
  ⟨h.bel.trans (hb.mono h.bel.size), h.ch.below hb h.ch.lt, h.bs.below hb h.bs.lt, h.bo.below hb h.bo.lt, h.mapS.below hb h.mapS.lt, h.mapO.below hb h.mapO.lt, fun p hp => (h.oks p hp).below hb, fun p hp => (h.oko p hp).below hb⟩
theorem Blk.grownMap {W W' : World} {g r : Nat} {t : TypeId} {cs : Array Value} (h : Blk W g t cs) (hg : W.grownBy W' (some r)) (hr : ∃ es cl, W.heap[r]? = some (.map es cl)) : Blk W' g t cs :=
  h.grown hg (fun e => by
    obtain ⟨es, cl, he⟩ := hr
    cases e
    unfold Blk at h
    rw [he] at h
    cases h)
/-- A turn of a box of another type. -/
theorem WkOk.grownBox {W W' : World} {p : Int × Wk} {g : Nat} {cs0 : Array Value} (h : WkOk W p) (hg : W.grownBy W' (some g)) (hb0 : Blk W g 111 cs0) : WkOk W' p := by
  have far : ∀ a, p.2.A = some a → a.block ≠ g := fun a ha e => by
    obtain ⟨cs, h1⟩ := h.typ a ha
    rw [e] at h1
    unfold Blk at h1 hb0
    rw [h1] at hb0
    simp at hb0
  exact ⟨h.to, h.ok, h.len, h.short, (Reads.grown h.at_ hg (Nat.le_refl _) (fun a ha e => far a ha (Option.some.inj e))).more hg.size, fun a ha => by
    obtain ⟨cs, h1⟩ := h.typ a ha
    exact ⟨cs, h1.grown hg (fun e => far a ha (Option.some.inj e))⟩⟩
/-- A turn of a map: everything else lies as it lay. -/
theorem WkOk.grown {W W' : World} {p : Int × Wk} {r : Nat} (h : WkOk W p) (hg : W.grownBy W' (some r)) (hr : ∃ es cl, W.heap[r]? = some (.map es cl)) : WkOk W' p :=
  ⟨h.to, h.ok, h.len, h.short, (ints_keep h.at_ (fun b cs t fr hb _ => (hg.block b (Array.getElem?_eq_some_iff.1 hb).1 (fun e => by
    obtain ⟨es, cl, he⟩ := hr
    cases e
    rw [he] at hb
    cases hb)).trans hb)).more hg.size, fun a ha => by obtain ⟨cs, h1⟩ := h.typ a ha; exact ⟨cs, h1.grownMap hg hr⟩⟩
theorem MapIs.form {w : World} {r : Nat} {m : List (Int × Wk)} (h : WkMap w r m) : ∃ es cl, w.heap[r]? = some (.map es cl) := by
  obtain ⟨es, cl, h, _⟩ := h
  exact ⟨es, cl, h⟩
theorem AllSt.setS {W' : World} {ms' : List (Int × Wk)} (h : AllSt w BS T ms mo W) (hg : W.grownBy W' (some (w.heap.size + 1))) (hm : WkMap W' (w.heap.size + 1) ms') (hok : ∀ p ∈ ms', WkOk W p) : AllSt w BS T ms' mo W' :=
  ⟨h.bel.grown hg h.bel.size (fun k e => by cases e; omega), h.ch.grownMap hg h.mapS.form, h.bs.grownMap hg h.mapS.form, h.bo.grownMap hg h.mapS.form, hm, h.mapO.grown hg (by simp), fun p hp => (hok p hp).grown hg h.mapS.form, fun p hp => (h.oko p hp).grown hg h.mapS.form⟩
theorem AllSt.setO {W' : World} {mo' : List (Int × Wk)} (h : AllSt w BS T ms mo W) (hg : W.grownBy W' (some (w.heap.size + 1 + 1))) (hm : WkMap W' (w.heap.size + 1 + 1) mo') (hok : ∀ p ∈ mo', WkOk W p) : AllSt w BS T ms mo' W' :=
  ⟨h.bel.grown hg h.bel.size (fun k e => by cases e; omega), h.ch.grownMap hg h.mapO.form, h.bs.grownMap hg h.mapO.form, h.bo.grownMap hg h.mapO.form, h.mapS.grown hg (by simp), hm, fun p hp => (h.oks p hp).grown hg h.mapO.form, fun p hp => (hok p hp).grown hg h.mapO.form⟩
theorem AllSt.shut {S : Nat} (h : AllSt w BS T ms mo W) (hs : Shut S W W') (h1 : w.heap.size + 1 + 1 < S) : AllSt w BS T ms mo W' :=
  have keep : ∀ p : Int × Wk, WkOk W p → WkOk W' p := fun p hp => ⟨hp.to, hp.ok, hp.len, hp.short, (ints_keep hp.at_ (fun b cs t fr hb _ => hs.cells b cs t fr hb)).more hs.below.size, fun a ha => by obtain ⟨cs, h1⟩ := hp.typ a ha; exact ⟨cs, hs.blk h1⟩⟩
  ⟨h.bel.trans (hs.below.mono (by omega)), hs.blk h.ch, hs.blk h.bs, hs.blk h.bo, h.mapS.below hs.below (by omega), h.mapO.below hs.below (by omega), fun p hp => keep p (h.oks p hp), fun p hp => keep p (h.oko p hp)⟩
end

/-- What a round must keep, both. -/
def KF (S n₀ g1 g2 : Nat) (W W' : World) : Prop := KeepsFrom S W W' ∧ FromK n₀ g1 g2 W W'
section
variable {S n₀ g1 g2 : Nat} {W W' W2 : World}
theorem KF.trans (h : KF S n₀ g1 g2 W W') (k : KF S n₀ g1 g2 W' W2) : KF S n₀ g1 g2 W W2 := ⟨h.1.trans k.1, fromK_t h.2 k.2⟩
theorem KF.below (hb : Below W.heap.size W W') (h1 : g1 < W.heap.size) (h2 : g2 < W.heap.size) (h0 : n₀ ≤ W.heap.size) : KF S n₀ g1 g2 W W' := ⟨keepsFrom_below hb, fromK_below hb h1 h2 h0⟩
theorem KF.box {g : Nat} {ty : TypeId} {cs0 : Array Value} (hg : W.grownBy W' (some g)) (hb0 : Blk W g ty cs0) (h0 : n₀ ≤ g) (h1 : g1 < g) (h2 : g2 < g) : KF S n₀ g1 g2 W W' := by
  have hlt := hb0.lt
  refine ⟨(KeepsOthers.of_grownBy hg (fun j o e ho => by cases e; unfold Blk at hb0; rw [hb0] at ho; cases ho; rfl)).from S, below_of_grown hg (fun k e => by cases e; exact h0) (by omega), ?_, ?_⟩
  · exact hg.block g1 (by omega) (fun e => by cases e; omega)
  · exact hg.block g2 (by omega) (fun e => by cases e; omega)
theorem KF.map {r : Nat} (hg : W.grownBy W' (some r)) (hr : r < S) (h0 : n₀ ≤ r) (hn : n₀ ≤ W.heap.size) (h1 : g1 < W.heap.size) (h2 : g2 < W.heap.size) (e1 : g1 ≠ r) (e2 : g2 ≠ r) : KF S n₀ g1 g2 W W' :=
  ⟨KeepsFrom.of_grownBy hg (fun j e => by cases e; exact hr), below_of_grown hg (fun k e => by cases e; exact h0) hn, hg.block g1 h1 (fun e => e1 (Option.some.inj e)), hg.block g2 h2 (fun e => e2 (Option.some.inj e))⟩
end

theorem WkOk.new {W : World} {base cap : Nat} {A : Option Addr} {l : List Int} {v i : Int} {c : Cost} {m : Nat} (h : Own W base 3 1 A (m + 1) cap ((l ++ [i]).map (Value.int .i64))) (hl : m = l.length) (hm : m ≤ 8) (hv : okI v) : WkOk W (v, ⟨v, c, l ++ [i], A, m + 1, cap⟩) :=
  ⟨rfl, hv, by simp [hl], by show m + 1 ≤ 9; omega, ints_of_own h (Nat.le_refl _), fun a ha => by
    rcases h.form with ⟨e, _⟩ | ⟨g, cur, e, _, hb, _⟩
    · rw [show A = some a from ha] at e; cases e
    · rw [show A = some a from ha] at e; cases e; exact ⟨cur, hb⟩⟩

structure AGh where
  co : Cost
  sA : Option Addr
  sn : Nat
  sc : Nat
  A57 : Option Addr
  c57 : Nat
  b60 : Nat
  A61 : Option Addr
  c61 : Nat
theorem Small.any {c : Cost} (h : 0 ≤ c.a ∧ c.a ≤ 125000 ∧ 0 ≤ c.b ∧ c.b ≤ 500 ∧ 1 ≤ c.c ∧ c.c ≤ 2000 ∧ c.d = 1) : Small c := ⟨by omega, by omega, by omega, by omega⟩
theorem Small.of_walk {t : Town} {dk : Bool} {p : Price} {u v : Int} {c : Cost} {l : List Int} (h : Walk t dk p u v c l) (ht : Fine t) (hp : Fair p) (hl : l.length ≤ 40) : Small c := by
  have := h.bound ht hp
  exact ⟨by omega, by omega, by omega, by omega⟩
theorem grown_belowB {w W W' : World} {row : Option Nat} (h : w.grownBy W row) (k : Below w.heap.size W W') : w.grownBy W' row :=
  ⟨k.os.trans h.os, k.tape.trans h.tape, k.output.trans h.output, Nat.le_trans h.size k.size, fun i hi hr => (k.block i hi).trans (h.block i hi hr)⟩
theorem own_row {w : World} {base n cap size k : Nat} {e : TypeId} {A : Option Addr} {xs : List Value} (h : Own w base e size A n cap xs) (hk : A.map (·.block) = some k) : base ≤ k := by
  cases A with
  | none => cases hk
  | some a => cases hk; exact (h.lt rfl).1

def mapSize (w : World) (r : Nat) : Nat := match w.heap[r]? with
  | some (.map es _) => es.size
  | _ => 0
theorem mapSize_eq {w : World} {r : Nat} {m : List (Int × Wk)} (h : WkMap w r m) : mapSize w r = m.length := by
  obtain ⟨es, cl, h1, h2, _⟩ := h
  unfold mapSize
  simp only [h1]
  have := congrArg List.length h2
  simpa using this
theorem keys_le {t : Town} {w : World} {r : Nat} {m : List (Int × Wk)} (h : WkMap w r m) (hk : ∀ q ∈ m, q.1 ∈ t.places) (hf : Fine t) : m.length ≤ 9 := by
  have hn := MapIs.nodup wkTy h
  have := nodup_le (a := m.map Prod.fst) (b := t.places) hn (fun v hv => by obtain ⟨q, hq, rfl⟩ := List.mem_map.1 hv; exact hk q hq)
  have h2 := hf.size
  simp at this
  omega

theorem Marks.grownMap {B r : Nat} {W W' : World} {ds : List Deferred} (h : Marks B W ds) (hg : W.grownBy W' (some r)) (hr : ∃ es cl, W.heap[r]? = some (.map es cl)) : Marks B W' ds :=
  h.keep fun d hd k hk h0 => (hg.block k (Array.getElem?_eq_some_iff.1 h0).1 (fun e => by
    obtain ⟨es, cl, he⟩ := hr
    cases e
    rw [he] at h0
    cases h0)).trans h0

/-- What all hands back. -/
def AllOut (w : World) (t : Town) (dk : Bool) (p : Price) (s : Int) (e : Ending) (w' : World) : Prop :=
  ∃ r ms, e = .returned (.map (some r)) ∧ WkMap w' r ms ∧ w.heap.size ≤ r ∧ (∀ q ∈ ms, WkOk w' q) ∧ (∀ v, fnOf ms v = best t dk p s v) ∧ Below w.heap.size w w'

/-- Within a round: the current walk in its box. -/
structure AllIn (w : World) (BS : Nat) (T : Array Value) (ms mo : List (Int × Wk)) (x : Wk) (B7 : Nat) (ds : List Deferred) (S : Nat) (W : World) : Prop where
  st : AllSt w BS T ms mo W
  b7 : Blk W B7 111 #[.int .i64 x.to, .int .i64 x.cost.a, .int .i64 x.cost.b, .int .i64 x.cost.c, .int .i64 x.cost.d, .slice x.A x.n x.cap]
  xat : IntsAt W B7 x.A x.n x.links
  marks : Marks w.heap.size W ds
  sz : S ≤ W.heap.size
section
variable {w W W' : World} {BS : Nat} {T : Array Value} {ms mo : List (Int × Wk)} {x : Wk} {B7 S : Nat} {ds : List Deferred}
theorem AllIn.below (h : AllIn w BS T ms mo x B7 ds S W) (hb : Below W.heap.size W W') : AllIn w BS T ms mo x B7 ds S W' :=
  ⟨h.st.below hb, h.b7.below hb h.b7.lt, h.xat.below (hb.mono (Nat.le_of_lt h.b7.lt)), h.marks.below hb, Nat.le_trans h.sz hb.size⟩
theorem AllIn.shut (h : AllIn w BS T ms mo x B7 ds S W) (hs : Shut S W W') (h1 : w.heap.size + 1 + 1 < S) (hd : ∀ d ∈ ds, ∀ r, d.target = .collected r → r < S) : AllIn w BS T ms mo x B7 ds S W' :=
  ⟨h.st.shut hs h1, hs.blk h.b7, ints_keep h.xat (fun b cs t fr hb _ => hs.cells b cs t fr hb), h.marks.shut hs hd, Nat.le_trans h.sz hs.below.size⟩
end
section
variable {w W W' : World} {BS : Nat} {T : Array Value} {ms mo : List (Int × Wk)} {x : Wk} {B7 S : Nat} {ds : List Deferred}
theorem AllIn.box {g : Nat} {cs0 : Array Value} (h : AllIn w BS T ms mo x B7 ds S W) (hg : W.grownBy W' (some g)) (hb0 : Blk W g 111 cs0) (hw : w.heap.size + 1 + 1 < g) (hS : BS + 1 < g) (hB : B7 < g) : AllIn w BS T ms mo x B7 ds S W' :=
  ⟨⟨h.st.bel.grown hg h.st.bel.size (fun k e => by cases e; omega), h.st.ch.grown hg (fun e => by cases e; omega), h.st.bs.grown hg (fun e => by cases e; omega), h.st.bo.grown hg (fun e => by cases e; omega), h.st.mapS.grown hg (fun e => by cases e; omega), h.st.mapO.grown hg (fun e => by cases e; omega), fun p hp => (h.st.oks p hp).grownBox hg hb0, fun p hp => (h.st.oko p hp).grownBox hg hb0⟩,
    h.b7.grown hg (fun e => by cases e; omega), ints_keep h.xat (fun b cs ty fr hb hlt => (hg.block b (Array.getElem?_eq_some_iff.1 hb).1 (fun e => by cases e; omega)).trans hb),
    h.marks.keep (fun d hd k hk h0 => (hg.block k (Array.getElem?_eq_some_iff.1 h0).1 (fun e => by cases e; unfold Blk at hb0; rw [hb0] at h0; cases h0)).trans h0), Nat.le_trans h.sz hg.size⟩
theorem AllIn.setO {mo' : List (Int × Wk)} (h : AllIn w BS T ms mo x B7 ds S W) (hg : W.grownBy W' (some (w.heap.size + 1 + 1))) (hm : WkMap W' (w.heap.size + 1 + 1) mo') (hok : ∀ p ∈ mo', WkOk W p) : AllIn w BS T ms mo' x B7 ds S W' :=
  ⟨h.st.setO hg hm hok, h.b7.grownMap hg h.st.mapO.form, ints_keep h.xat (fun b cs ty fr hb hlt => (hg.block b (Array.getElem?_eq_some_iff.1 hb).1 (fun e => by
    obtain ⟨es, cl, he⟩ := h.st.mapO.form
    cases e
    rw [he] at hb
    cases hb)).trans hb), h.marks.grownMap hg h.st.mapO.form, Nat.le_trans h.sz hg.size⟩
end

set_option maxRecDepth 100000 in
set_option maxHeartbeats 16000000 in
theorem all_in (A : Option Addr) (nn c : Nat) (A' : Option Addr) (m d : Nat) (dk : Bool) (F : FuncId) (C : Array Value) (p : Price) (t : Town) (place : Int) (w : World)
    (hm : m ≤ 20) (ht : LinksAt w w.heap.size A' m t.links) (hp : PriceAt w p F C) (hfine : Fine t) (hfair : Fair p) (hplace : place ∈ t.places) (hids : ∀ v ∈ t.places, 1 ≤ v ∧ v ≤ 9999) :
    CallsIn Fence.wide 9 Tryd.prog 56 #[.agg #[.slice A nn c, .slice A' m d, .bool dk, .func (.func F) #[] C], .int .i64 place] w (AllOut w t dk p place) := by
  have HT := Lib.hid ht
  have HP := Lib.hid hp
  have HFI := Lib.hid hfine
  have HFA := Lib.hid hfair
  have HPL := Lib.hid hplace
  have HID := Lib.hid hids
  have HF : Hid (∀ x ∈ t.links, Fit x) := Lib.hid fun x hx => ⟨hfine.steps x hx, hfine.paces x hx⟩
  have hokp : okI place := okI_of (by have := hids place hplace; omega) (by have := hids place hplace; omega)
  clear ht hp hfine hfair hplace hids
  have hmm := @run_makeMap Tryd.prog
  have M0 : WkMap (((w.alloc (.cells #[.slice A nn c, .slice A' m d, .bool dk, .func (.func F) #[] C] 115)).alloc (.map #[] 0)).alloc (.map #[] 0)) (w.heap.size + 1 + 1) [] := by
    have h := MapIs.made (β := Wk) (encK := Value.int .i64) (encV := Wk.val) (okK := okI) ((w.alloc (.cells #[.slice A nn c, .slice A' m d, .bool dk, .func (.func F) #[] C] 115)).alloc (.map #[] 0))
    rw [World.size_alloc, World.size_alloc] at h
    exact h
  have M1 : WkMap (((w.alloc (.cells #[.slice A nn c, .slice A' m d, .bool dk, .func (.func F) #[] C] 115)).alloc (.map #[] 0)).alloc (.map #[] 0)) (w.heap.size + 1) [] := by
    have h := (MapIs.made (β := Wk) (encK := Value.int .i64) (encV := Wk.val) (okK := okI) (w.alloc (.cells #[.slice A nn c, .slice A' m d, .bool dk, .func (.func F) #[] C] 115))).alloc (.map #[] 0)
    rw [World.size_alloc] at h
    exact h
  have B0 : Below w.heap.size w (((w.alloc (.cells #[.slice A nn c, .slice A' m d, .bool dk, .func (.func F) #[] C] 115)).alloc (.map #[] 0)).alloc (.map #[] 0)) := (((Below.refl _ _).alloc (Nat.le_refl _) _).alloc (by simp) _).alloc (by simp; omega) _
  have X0 : Blk (((w.alloc (.cells #[.slice A nn c, .slice A' m d, .bool dk, .func (.func F) #[] C] 115)).alloc (.map #[] 0)).alloc (.map #[] 0)) w.heap.size 115 #[.slice A nn c, .slice A' m d, .bool dk, .func (.func F) #[] C] := ((Blk.new w _ _).alloc _).alloc _
  have hsz3 : (((w.alloc (.cells #[.slice A nn c, .slice A' m d, .bool dk, .func (.func F) #[] C] 115)).alloc (.map #[] 0)).alloc (.map #[] 0)).heap.size = w.heap.size + 3 := by simp
  obtain ⟨wi, hri, hmi, hgi, hsi⟩ := MapIs.update (P := Tryd.prog) wkTy M0 hokp (⟨place, ⟨0, 0, 0, 0⟩, [], none, 0, 0⟩ : Wk)
  have hmi1 : WkMap wi (w.heap.size + 1) [] := M1.grown hgi (by simp)
  have HMI := Lib.hid hmi
  have HMI1 := Lib.hid hmi1
  have HXI := Lib.hid (X0.grownMap hgi M0.form)
  have HBI := Lib.hid (B0.grown hgi (by rw [hsz3]; omega) (fun k e => by cases e; omega))
  have HSI : Hid (wi.heap.size = w.heap.size + 3) := Lib.hid (hsi.trans hsz3)
  clear hmi hmi1 M0 M1 B0 X0 hsz3 hgi hsi
  refine callsIn_of_wp_marks Tryd.func56 rfl trivial ?_ rfl
  simp only [Tryd.ntmps56, List.size_toArray, List.length_cons, List.length_nil, Nat.reduceAdd, Nat.reduceSub, Array.replicate_succ, Array.replicate_zero, List.push_toArray, List.append_toArray, List.nil_append, List.cons_append]
  gi_wp2
  have HBS : Hid (w.heap.size + 1 + 1 < wi.heap.size) := Lib.hid (by rw [HSI.out]; omega)
  have S0 : AllSt w wi.heap.size #[.slice A nn c, .slice A' m d, .bool dk, .func (.func F) #[] C] [] (put [] place ⟨place, ⟨0, 0, 0, 0⟩, [], none, 0, 0⟩) ((wi.alloc (.cells #[.map (some (w.heap.size + 1))] 113)).alloc (.cells #[.map (some (w.heap.size + 1 + 1))] 113)) := by
    have Y := Blk.new (wi.alloc (.cells #[.map (some (w.heap.size + 1))] 113)) 113 #[.map (some (w.heap.size + 1 + 1))]
    rw [World.size_alloc] at Y
    refine ⟨(HBI.out.alloc HBI.out.size _).alloc (by simp; have := HBI.out.size; omega) _, (HXI.out.alloc _).alloc _, (Blk.new wi _ _).alloc _, Y, (HMI1.out.alloc _).alloc _, (HMI.out.alloc _).alloc _, (fun q hq => by cases hq), fun q hq => ?_⟩
    have e : q = (place, ⟨place, ⟨0, 0, 0, 0⟩, [], none, 0, 0⟩) := by simpa [put] using hq
    subst e
    exact ⟨rfl, hokp, rfl, Nat.zero_le _, Reads.none_, fun a ha => by cases ha⟩
  have D0 : DInv t dk p place (fnOf []) (fnOf (put [] place ⟨place, ⟨0, 0, 0, 0⟩, [], none, 0, 0⟩)) := by
    have h := DInv.init (t := t) (dk := dk) (p := p) place
    rw [fnOf_put, fnOf_nil]
    exact h
  clear hri
  generalize ((wi.alloc (.cells #[.map (some (w.heap.size + 1))] 113)).alloc (.cells #[.map (some (w.heap.size + 1 + 1))] 113)) = w0 at *
  generalize wi.heap.size = BS at *
  have S0' := Lib.hid S0
  have D0' := Lib.hid D0
  clear S0 D0
  refine wpIn_loop (fun a W => ∃ (ms mo : List (Int × Wk)) (ds : List Deferred) (u7 u8 u21 u22 u23 u24 u25 u26 u27 u28 u29 u30 u31 u32 u33 u34 u35 u36 u37 u38 u39 : Value), Hid (AllSt w BS #[.slice A nn c, .slice A' m d, .bool dk, .func (.func F) #[] C] ms mo W ∧ Marks w.heap.size W ds ∧ DInv t dk p place (fnOf ms) (fnOf mo) ∧ (∀ q ∈ ms, q.1 ∈ t.places) ∧ (∀ q ∈ mo, q.1 ∈ t.places)) ∧
      a = { tmps := #[.agg #[.slice A nn c, .slice A' m d, .bool dk, .func (.func F) #[] C], .int .i64 place, .pointer (some ⟨w.heap.size, 0, none⟩), undef, .map none, .pointer (some ⟨BS, 0, none⟩), .pointer (some ⟨BS + 1, 0, none⟩), u7, u8, undef, undef, undef, undef, undef, undef, .map (some (w.heap.size + 1)), .map (some (w.heap.size + 1 + 1)), .int .i64 place, .int .i64 place, .agg #[.int .i64 place, .int .i64 0, .int .i64 0, .int .i64 0, .int .i64 0, .slice none 0 0], .map (some (w.heap.size + 1 + 1)), u21, u22, u23, u24, u25, u26, u27, u28, u29, u30, u31, u32, u33, u34, u35, u36, u37, u38, u39, undef, undef, undef, undef, undef, undef, undef, undef, undef, undef, undef, undef, undef, undef, undef, undef, undef, undef, undef, undef, undef, undef, undef, undef, undef, undef, undef, undef, undef, undef, undef, undef, undef, undef, undef, undef, undef, undef, undef, undef, undef, undef, undef], defers := ds })
    (fun _ W => 10 - mapSize W (w.heap.size + 1)) ?_ ?_
  · exact ⟨[], _, [], undef, undef, undef, undef, undef, undef, undef, undef, undef, undef, undef, undef, undef, undef, undef, undef, undef, undef, undef, undef, undef, Lib.hid ⟨S0'.out, trivial, D0'.out, (fun q hq => by cases hq), fun q hq => by
      have e : q = (place, ⟨place, ⟨0, 0, 0, 0⟩, [], none, 0, 0⟩) := by simpa [put] using hq
      subst e
      exact HPL.out⟩, rfl⟩
  · rintro a W ⟨ms, mo, ds, u7, u8, u21, u22, u23, u24, u25, u26, u27, u28, u29, u30, u31, u32, u33, u34, u35, u36, u37, u38, u39, HS, rfl⟩
    have HFO := Lib.hid (first_in (BS + 1) (w.heap.size + 1 + 1) mo W HS.out.1.bo HS.out.1.mapO (fun y hy => by
      obtain ⟨q, hq, rfl⟩ := List.mem_map.1 hy
      exact ⟨(HS.out.1.oko q hq).at_, Nat.le_trans (HS.out.1.oko q hq).short (by omega)⟩))
    gi_wp2
    refine ⟨trivial, (callsIn_wide.2 (callsIn_wide.1 HFO.out)).mono ?_⟩
    rintro e w1 ⟨v, f, rfl, hbest, hb1⟩
    have HS1 := Lib.hid (HS.out.1.below hb1)
    have HB1 := Lib.hid hb1
    clear hb1
    cases f
    · have hv : mo = [] ∧ v = zeroWk := by
        rcases hbest with ⟨h0, h1, _⟩ | ⟨_, _, _, h1, _⟩
        · exact ⟨List.map_eq_nil_iff.1 h0, h1⟩
        · cases h1
      obtain ⟨hmo, rfl⟩ := hv
      have HMO := Lib.hid hmo
      clear hbest hmo
      have s5 : w1.cell? ⟨BS, 0, none⟩ = some (.map (some (w.heap.size + 1))) := HS1.out.bs.cell 0
      have sl := HS1.out.bs.lt
      gi_wp2
      have hmk := (HS.out.2.1.below HB1.out).below ((Below.refl w1.heap.size w1).alloc (Nat.le_refl _) (.cells #[.int .i64 0, .int .i64 0, .int .i64 0, .int .i64 0, .int .i64 0, .slice none 0 0] 111))
      have hst := HS1.out.below ((Below.refl w1.heap.size w1).alloc (Nat.le_refl _) (.cells #[.int .i64 0, .int .i64 0, .int .i64 0, .int .i64 0, .int .i64 0, .slice none 0 0] 111))
      refine leaves_marksD _ _ hmk ?_
      intro w' hs
      refine ⟨.map (some (w.heap.size + 1)), ?_, w.heap.size + 1, ms, rfl, ?_, by omega, ?_, ?_, hst.bel.trans hs.below⟩
      · simp [results, Tryd.results56, go_sem]
      · obtain ⟨es, cl, h1, h2⟩ := hst.mapS
        exact ⟨es, cl, hs.others _ _ h1 (fun x e => by cases e), h2⟩
      · intro q hq
        have h := hst.oks q hq
        exact ⟨h.to, h.ok, h.len, h.short, (hs.reads h.at_).more hs.below.size, fun a ha => by obtain ⟨cs, h1⟩ := h.typ a ha; exact ⟨cs, hs.blk h1⟩⟩
      · intro v
        have h := HS.out.2.2.1.over (fun v => by rw [HMO.out]; rfl) v
        exact (first_iff HFI.out HFA.out).1 h
    · have hv : ∃ x, (∃ k, (k, x) ∈ mo) ∧ v = x.val ∧ ∀ q ∈ mo, cmpW x.cost x.links q.2.cost q.2.links ≤ 0 := by
        rcases hbest with ⟨_, _, h1⟩ | ⟨x, hx, h1, _, h2⟩
        · cases h1
        · obtain ⟨q, hq, rfl⟩ := List.mem_map.1 hx
          exact ⟨q.2, ⟨q.1, hq⟩, h1, fun q' hq' => h2 q'.2 (List.mem_map.2 ⟨q', hq', rfl⟩)⟩
      obtain ⟨x, ⟨kx, hx⟩, rfl, hmin⟩ := hv
      have hkx : kx = x.to := (HS.out.1.oko _ hx).to.symm
      subst hkx
      have hxo := HS1.out.oko _ hx
      have hok := hxo.ok
      have HX := Lib.hid hx
      have HXO := Lib.hid hxo
      have HMIN := Lib.hid hmin
      have HXP := Lib.hid (HS.out.2.2.2.2 _ hx)
      have hA2 := HS1.out.below ((Below.refl w1.heap.size w1).alloc (Nat.le_refl _) (.cells #[.int .i64 x.to, .int .i64 x.cost.a, .int .i64 x.cost.b, .int .i64 x.cost.c, .int .i64 x.cost.d, .slice x.A x.n x.cap] 111))
      obtain ⟨w3, hdel, hm3, hg3, hs3⟩ := MapIs.delete_ (P := Tryd.prog) wkTy hA2.mapO hok 0
      have hA3 := hA2.setO hg3 hm3 (fun q hq => hA2.oko q (mem_cut.1 hq).1)
      have hb73 : Blk w3 w1.heap.size 111 #[.int .i64 x.to, .int .i64 x.cost.a, .int .i64 x.cost.b, .int .i64 x.cost.c, .int .i64 x.cost.d, .slice x.A x.n x.cap] := (Blk.new w1 _ _).grownMap hg3 hA2.mapO.form
      obtain ⟨w4, hup, hm4, hg4, hs4⟩ := MapIs.update (P := Tryd.prog) wkTy hA3.mapS hok x
      have hok3 : WkOk w3 (x.to, x) := (hxo.below ((Below.refl w1.heap.size w1).alloc (Nat.le_refl _) _)).grown hg3 hA2.mapO.form
      have hA4 := hA3.setS hg4 hm4 (fun q hq => by
        rcases mem_put hq with rfl | hq
        · exact hok3
        · exact hA3.oks q hq.1)
      have hb74 : Blk w4 w1.heap.size 111 #[.int .i64 x.to, .int .i64 x.cost.a, .int .i64 x.cost.b, .int .i64 x.cost.c, .int .i64 x.cost.d, .slice x.A x.n x.cap] := hb73.grownMap hg4 hA3.mapS.form
      have hok4 : WkOk w4 (x.to, x) := hok3.grown hg4 hA3.mapS.form
      have hmk4 : Marks w.heap.size w4 ds := by
        have h1 := (HS.out.2.1.below HB1.out).below ((Below.refl w1.heap.size w1).alloc (Nat.le_refl _) (.cells #[.int .i64 x.to, .int .i64 x.cost.a, .int .i64 x.cost.b, .int .i64 x.cost.c, .int .i64 x.cost.d, .slice x.A x.n x.cap] 111))
        have h2 := h1.grownMap hg3 hA2.mapO.form
        exact h2.grownMap hg4 hA3.mapS.form
      have hx4 : IntsAt w4 w1.heap.size x.A x.n x.links := by
        have h1 : IntsAt (w1.alloc (.cells #[.int .i64 x.to, .int .i64 x.cost.a, .int .i64 x.cost.b, .int .i64 x.cost.c, .int .i64 x.cost.d, .slice x.A x.n x.cap] 111)) w1.heap.size x.A x.n x.links := IntsAt.below hxo.at_ ((Below.refl w1.heap.size w1).alloc (Nat.le_refl _) _)
        have h2 := ints_keep h1 (W' := w3) (fun b cs ty fr hb _ => (hg3.block b (Array.getElem?_eq_some_iff.1 hb).1 (fun e => by
          obtain ⟨es, cl, he⟩ := hA2.mapO.form
          cases e
          rw [he] at hb
          cases hb)).trans hb)
        exact ints_keep h2 (fun b cs ty fr hb _ => (hg4.block b (Array.getElem?_eq_some_iff.1 hb).1 (fun e => by
          obtain ⟨es, cl, he⟩ := hA3.mapS.form
          cases e
          rw [he] at hb
          cases hb)).trans hb)
      have HX4 := Lib.hid hx4
      have hsz4 : w4.heap.size = w1.heap.size + 1 := by rw [hs4, hs3]; simp
      have HA4 := Lib.hid hA4
      have HB74 := Lib.hid hb74
      have HOK4 := Lib.hid hok4
      have HMK4 := Lib.hid hmk4
      have HSZ4 := Lib.hid hsz4
      have o1 := HS1.out.bo.cell 0
      have ol := HS1.out.bo.lt
      have e0 := hA3.bs.cell 0
      have e1 := hb73.cell 0
      have e2 := hb73.cell 1
      have e3 := hb73.cell 2
      have e4 := hb73.cell 3
      have e5 := hb73.cell 4
      have e6 := hb73.cell 5
      have g0 := hA4.ch.cell 0
      have g1 := hA4.ch.cell 1
      have g2 := hA4.ch.cell 2
      have g3 := hA4.ch.cell 3
      have g4 := hb74.cell 0
      clear hx hxo hok hmin hA2 hm3 hg3 hs3 hA3 hb73 hm4 hg4 hs4 hok3 hA4 hb74 hok4 hmk4 hsz4 hbest hx4
      gi_wp2
      refine ⟨trivial, (callsIn_wide.2 (from_any _ _ _ _ _ rfl x.to _)).mono ?_⟩
      rintro e w5 ⟨rfl, rfl⟩
      have HR0 : Hid (DRound t dk p place x.to x.cost x.links [] (fnOf (put ms x.to x)) (fnOf (cut mo x.to))) := Lib.hid (by
        rw [fnOf_put, fnOf_cut]
        exact HS.out.2.2.1.enter' HFI.out HFA.out (fnOf_mem (MapIs.nodup wkTy HS.out.1.mapO) HX.out) (fun v' c' l' hv => by
          obtain ⟨z, hz, rfl, rfl⟩ := fnOf_some hv
          have := HMIN.out _ hz
          rwa [cmpW_key] at this))
      have FI := (from_in w4 #[.slice A nn c, .slice A' m d, .bool dk, .func (.func F) #[] C] x.to).base HA4.out.bel
      have hb6 : Below w4.heap.size w4 ((w4.alloc (.cells #[.slice A nn c, .slice A' m d, .bool dk, .func (.func F) #[] C] 115)).alloc (.cells #[.int .i64 x.to] 3)) := ((Below.refl _ _).alloc (Nat.le_refl _) _).alloc (by simp) _
      have AI : AllIn w BS #[.slice A nn c, .slice A' m d, .bool dk, .func (.func F) #[] C] (put ms x.to x) (cut mo x.to) x w1.heap.size ds ((w4.alloc (.cells #[.slice A nn c, .slice A' m d, .bool dk, .func (.func F) #[] C] 115)).alloc (.cells #[.int .i64 x.to] 3)).heap.size ((w4.alloc (.cells #[.slice A nn c, .slice A' m d, .bool dk, .func (.func F) #[] C] 115)).alloc (.cells #[.int .i64 x.to] 3)) :=
        ⟨HA4.out.below hb6, HB74.out.below hb6 HB74.out.lt, HX4.out.below (hb6.mono (by have := HSZ4.out; omega)), HMK4.out.below hb6, Nat.le_refl _⟩
      have g1l := FI.chart.lt
      have g2l := FI.place.lt
      have hdl : ∀ dd ∈ ds, ∀ r, dd.target = .collected r → r < ((w4.alloc (.cells #[.slice A nn c, .slice A' m d, .bool dk, .func (.func F) #[] C] 115)).alloc (.cells #[.int .i64 x.to] 3)).heap.size := fun dd hd r hr => by
        have := HMK4.out.lt dd hd r hr
        simp
        omega
      have HSZ6 : Hid (((w4.alloc (.cells #[.slice A nn c, .slice A' m d, .bool dk, .func (.func F) #[] C] 115)).alloc (.cells #[.int .i64 x.to] 3)).heap.size = w1.heap.size + 3) := Lib.hid (by have := HSZ4.out; simp; omega)
      have hbs1 : BS + 1 < w1.heap.size := ol
      clear hdel hup o1 e0 e1 e2 e3 e4 e5 e6 g0 g1 g2 g3 g4 hb6
      gi_wp2
      generalize ((w4.alloc (.cells #[.slice A nn c, .slice A' m d, .bool dk, .func (.func F) #[] C] 115)).alloc (.cells #[.int .i64 x.to] 3)) = w6 at *
      have hws : w.heap.size ≤ w6.heap.size := FI.below.size
      have hlt2 : w.heap.size + 1 + 1 < w6.heap.size := by have := HBS.out; have := HSZ6.out; omega
      refine wpIn_rangeFunc_ownH rfl (by omega) (gf := 140) (lb := #[.pointer (some ⟨w4.heap.size, 0, none⟩), .pointer (some ⟨w4.heap.size + 1, 0, none⟩)]) rfl trivial (enters_of Tryd.func140 (by kernel_rfl) rfl)
        (from1_stops 8 (by omega) A nn c A' m d dk F C p t x.to w4.heap.size (w4.heap.size + 1) w w6 hm HT.out HP.out HF.out FI) (fun h k => fromK_t h k) (fromK_b g1l g2l hws) (Below.refl _ _) (fun _ => rfl)
        (fun pre Wr => ∃ mo1, AllIn w BS #[.slice A nn c, .slice A' m d, .bool dk, .func (.func F) #[] C] (put ms x.to x) mo1 x w1.heap.size ds w6.heap.size Wr ∧ DRound t dk p place x.to x.cost x.links (pre.map Subtype.val) (fnOf (put ms x.to x)) (fnOf mo1) ∧ ∀ q ∈ mo1, q.1 ∈ t.places)
        (fun cd pre Wr => False)
        (ownFrom_shut (fun s Wr h => by obtain ⟨mo1, h, _⟩ := h; exact h.sz) (fun s Wr Wr' h hs => by obtain ⟨mo1, h, h2⟩ := h; exact ⟨mo1, h.shut hs hlt2 hdl, h2⟩))
        (fun cd => ownFrom_shut (fun s Wr h => h.elim) (fun s Wr Wr' h hs => h))
        ⟨_, AI, HR0.out, fun q hq => HS.out.2.2.2.2 q (mem_cut.1 hq).1⟩
        (fun y a' Wr => ∃ Bx, w6.heap.size ≤ Bx ∧ Blk Wr Bx 45 #[.int .i64 y.1.1.id, .int .i64 y.1.1.fr, .int .i64 y.1.1.to, .int .i64 y.1.1.steps, .int .i64 y.1.1.paces] ∧ Blk Wr (Bx + 1) 111 #[.int .i64 y.1.2.1, .int .i64 y.1.2.2.a, .int .i64 y.1.2.2.b, .int .i64 y.1.2.2.c, .int .i64 y.1.2.2.d, .slice none 0 0] ∧
          a' = { tmps := #[.agg #[.slice A nn c, .slice A' m d, .bool dk, .func (.func F) #[] C], .int .i64 place, .pointer (some ⟨w.heap.size, 0, none⟩), undef, .map none, .pointer (some ⟨BS, 0, none⟩), .pointer (some ⟨BS + 1, 0, none⟩), .pointer (some ⟨w1.heap.size, 0, none⟩), .bool true, .pointer (some ⟨Bx, 0, none⟩), .pointer (some ⟨Bx + 1, 0, none⟩), undef, undef, undef, undef, .map (some (w.heap.size + 1)), .map (some (w.heap.size + 1 + 1)), .int .i64 place, .int .i64 place, .agg #[.int .i64 place, .int .i64 0, .int .i64 0, .int .i64 0, .int .i64 0, .slice none 0 0], .map (some (w.heap.size + 1 + 1)), .tuple #[x.val, .bool true], .func (.func 115) #[] #[.pointer (some ⟨BS + 1, 0, none⟩)], .tuple #[x.val, .bool true], x.val, .bool true, .bool true, .bool false, u28, .map (some (w.heap.size + 1 + 1)), .pointer (some ⟨w1.heap.size, 0, none⟩), .int .i64 x.to, .map (some (w.heap.size + 1)), .pointer (some ⟨w1.heap.size, 0, none⟩), .int .i64 x.to, .agg #[.int .i64 x.to, .int .i64 x.cost.a, .int .i64 x.cost.b, .int .i64 x.cost.c, .int .i64 x.cost.d, .slice x.A x.n x.cap], .agg #[.slice A nn c, .slice A' m d, .bool dk, .func (.func F) #[] C], .pointer (some ⟨w1.heap.size, 0, none⟩), .int .i64 x.to, .func (.func 140) #[] #[.pointer (some ⟨w4.heap.size, 0, none⟩), .pointer (some ⟨w4.heap.size + 1, 0, none⟩)], linkV y.1.1, .agg #[.int .i64 y.1.2.1, .int .i64 y.1.2.2.a, .int .i64 y.1.2.2.b, .int .i64 y.1.2.2.c, .int .i64 y.1.2.2.d, .slice none 0 0], undef, undef, undef, undef, undef, undef, undef, undef, undef, undef, undef, undef, undef, undef, undef, undef, undef, undef, undef, undef, undef, undef, undef, undef, undef, undef, undef, undef, undef, undef, undef, undef, undef, undef, undef, undef, undef, undef, undef, undef, undef], defers := [] })
        (fun y a' => ownFrom_shut (fun _ Wr h => by obtain ⟨Bx, h1, h2, _⟩ := h; exact Nat.le_trans h1 (Nat.le_of_lt h2.lt)) (fun _ Wr Wr' h hs => by obtain ⟨Bx, h1, h2, h3, h4⟩ := h; exact ⟨Bx, h1, hs.blk h2, hs.blk h3, h4⟩)) ?assign ?body ?done ?stop
      case assign =>
        rintro l' pre ⟨⟨lk, v, cx⟩, hy⟩ Wr K hI hK
        unfold Out.enc
        gi_wp2
        obtain ⟨mo1, hI, hI2⟩ := hI
        have hb : Below Wr.heap.size Wr ((Wr.alloc (.cells #[.int .i64 lk.id, .int .i64 lk.fr, .int .i64 lk.to, .int .i64 lk.steps, .int .i64 lk.paces] 45)).alloc (.cells #[.int .i64 v, .int .i64 cx.a, .int .i64 cx.b, .int .i64 cx.c, .int .i64 cx.d, .slice none 0 0] 111)) := ((Below.refl _ _).alloc (Nat.le_refl _) _).alloc (by simp) _
        have Y := Blk.new (Wr.alloc (.cells #[.int .i64 lk.id, .int .i64 lk.fr, .int .i64 lk.to, .int .i64 lk.steps, .int .i64 lk.paces] 45)) 111 #[.int .i64 v, .int .i64 cx.a, .int .i64 cx.b, .int .i64 cx.c, .int .i64 cx.d, .slice none 0 0]
        rw [World.size_alloc] at Y
        have hsz := hI.sz
        exact hK _ _ (keepsFrom_below hb) (fromK_below hb (by omega) (by omega) (by omega)) ⟨mo1, hI.below hb, hI2⟩ ⟨Wr.heap.size, hsz, (Blk.new Wr _ _).alloc _, Y, rfl⟩
      case body =>
        rintro l' pre ⟨⟨lk, v, cx⟩, hy⟩ a' Wr hl ⟨r, hrr⟩ ⟨mo1, hI, hDR, hKO⟩ ⟨Bx, hBx, bX, bY, rfl⟩ hlen
        dsimp only at bX bY ⊢
        have hvp := (leads_ends (outs_leads hy).1 HFI.out (outs_leads hy).2).2
        have hvid := HID.out v hvp
        have hokv : okI v := okI_of (by omega) (by omega)
        have HVP := Lib.hid hvp
        have HOV := Lib.hid hokv
        have HI := Lib.hid hI
        have HDR := Lib.hid hDR
        have HKO := Lib.hid hKO
        have HBX := Lib.hid bX
        have HBY := Lib.hid bY
        have HYM := Lib.hid hy
        have s5 := hI.st.bs.cell 0
        have sl := hI.st.bs.lt
        have szx := bX.lt
        have szy := bY.lt
        have j0 := bY.cell 0
        have hL := hI.st.mapS.lookup wkTy hokv true
        cases hlk : look (put ms x.to x) v with
        | some z =>
          rw [hlk] at hL
          simp only [if_true] at hL
          have hfn : fnOf (put ms x.to x) v ≠ none := by unfold fnOf; rw [hlk]; simp
          have HFN := Lib.hid hfn
          clear hfn hlk hI hDR hKO bX bY hvp hvid hokv hrr
          gi_wp2
          have hb : Below Wr.heap.size Wr (Wr.alloc (.cells #[.int .i64 z.to, .int .i64 z.cost.a, .int .i64 z.cost.b, .int .i64 z.cost.c, .int .i64 z.cost.d, .slice z.A z.n z.cap] 111)) := (Below.refl _ _).alloc (Nat.le_refl _) _
          have hsz := HI.out.sz
          refine ⟨keepsFrom_below hb, fromK_below hb (by omega) (by omega) (by omega), mo1, HI.out.below hb, ?_, fun a b hq => HKO.out (a, b) hq⟩
          rw [List.map_append]
          exact HDR.out.skip (.inl HFN.out)
        | none =>
          rw [hlk] at hL
          simp only [if_true] at hL
          have hfn : fnOf (put ms x.to x) v = none := by unfold fnOf; rw [hlk]; rfl
          have HFN := Lib.hid hfn
          clear hfn hlk hI hDR hKO bX bY hvp hvid hokv hrr
          have HSM : Hid (Small cx ∧ Small x.cost) := Lib.hid ⟨Small.any (leads_cost (outs_leads hy).1 HFI.out HFA.out (outs_leads hy).2), Small.of_walk (HDR.out.sFirst _ _ HDR.out.here).1 HFI.out HFA.out (by have h1 := HXO.out.len; have h2 := HXO.out.short; dsimp only at h1 h2; omega)⟩
          have HN9 : Hid (x.n ≤ 9) := Lib.hid HXO.out.short
          have HX8 : Hid (x.n ≤ 8) := Lib.hid (by have h1 := HXO.out.len; have h2 := (HDR.out.sFirst _ _ HDR.out.here).short HFI.out HFA.out; dsimp only at h1; omega)
          have h67 : w1.heap.size < w6.heap.size := by have := HSZ6.out; omega
          have h64 : w4.heap.size + 1 < w6.heap.size := g2l
          have hb8 : BS + 1 < w6.heap.size := by omega
          have hw4 : w.heap.size + 1 + 1 < w4.heap.size := by have := HSZ4.out; have := HBS.out; omega
          gi_wp2
          have hbV : Below Wr.heap.size Wr (Wr.alloc (.cells #[.int .i64 0, .int .i64 0, .int .i64 0, .int .i64 0, .int .i64 0, .slice none 0 0] 111)) := (Below.refl _ _).alloc (Nat.le_refl _) _
          have HIV := Lib.hid (HI.out.below hbV)
          have HBXV := Lib.hid (HBX.out.below hbV szx)
          have HBYV := Lib.hid (HBY.out.below hbV szy)
          have HKV : Hid (KF w6.heap.size w.heap.size w4.heap.size (w4.heap.size + 1) Wr (Wr.alloc (.cells #[.int .i64 0, .int .i64 0, .int .i64 0, .int .i64 0, .int .i64 0, .slice none 0 0] 111))) := Lib.hid (by
            have hsz := HI.out.sz
            exact KF.below hbV (by omega) (by omega) (by omega))
          clear hbV
          generalize (Wr.alloc (.cells #[.int .i64 0, .int .i64 0, .int .i64 0, .int .i64 0, .int .i64 0, .slice none 0 0] 111)) = V at *
          refine wpIn_region_stepsD (by kernel_rfl) (by kernel_rfl) (fun σ : AGh × (Nat → Value) => { tmps := #[.agg #[.slice A nn c, .slice A' m d, .bool dk, .func (.func F) #[] C], .int .i64 place, .pointer (some ⟨w.heap.size, 0, none⟩), undef, .map none, .pointer (some ⟨BS, 0, none⟩), .pointer (some ⟨BS + 1, 0, none⟩), .pointer (some ⟨w1.heap.size, 0, none⟩), .bool true, .pointer (some ⟨Bx, 0, none⟩), .pointer (some ⟨Bx + 1, 0, none⟩), .pointer (some ⟨Wr.heap.size, 0, none⟩), .bool false, undef, undef, .map (some (w.heap.size + 1)), .map (some (w.heap.size + 1 + 1)), .int .i64 place, .int .i64 place, .agg #[.int .i64 place, .int .i64 0, .int .i64 0, .int .i64 0, .int .i64 0, .slice none 0 0], .map (some (w.heap.size + 1 + 1)), .tuple #[x.val, .bool true], .func (.func 115) #[] #[.pointer (some ⟨BS + 1, 0, none⟩)], .tuple #[x.val, .bool true], x.val, .bool true, .bool true, .bool false, u28, .map (some (w.heap.size + 1 + 1)), .pointer (some ⟨w1.heap.size, 0, none⟩), .int .i64 x.to, .map (some (w.heap.size + 1)), .pointer (some ⟨w1.heap.size, 0, none⟩), .int .i64 x.to, .agg #[.int .i64 x.to, .int .i64 x.cost.a, .int .i64 x.cost.b, .int .i64 x.cost.c, .int .i64 x.cost.d, .slice x.A x.n x.cap], .agg #[.slice A nn c, .slice A' m d, .bool dk, .func (.func F) #[] C], .pointer (some ⟨w1.heap.size, 0, none⟩), .int .i64 x.to, .func (.func 140) #[] #[.pointer (some ⟨w4.heap.size, 0, none⟩), .pointer (some ⟨w4.heap.size + 1, 0, none⟩)], linkV lk, .agg #[.int .i64 v, .int .i64 cx.a, .int .i64 cx.b, .int .i64 cx.c, .int .i64 cx.d, .slice none 0 0], .tuple #[zeroWk, .bool false], .map (some (w.heap.size + 1)), .pointer (some ⟨Bx + 1, 0, none⟩), .int .i64 v, .tuple #[zeroWk, .bool false], zeroWk, .bool false, .bool false, σ.2 50, σ.2 51, σ.2 52, σ.2 53, σ.2 54, σ.2 55, σ.2 56, σ.2 57, σ.2 58, σ.2 59, σ.2 60, σ.2 61, σ.2 62, σ.2 63, undef, undef, undef, undef, undef, undef, undef, undef, undef, undef, undef, undef, undef, undef, undef, undef, undef, undef, undef], defers := [] })
            (fun L σ W => (V.grownBy W (some (Bx + 1))) ∧ (Blk W (Bx + 1) 111 #[.int .i64 v, .int .i64 σ.1.co.a, .int .i64 σ.1.co.b, .int .i64 σ.1.co.c, .int .i64 σ.1.co.d, .slice σ.1.sA σ.1.sn σ.1.sc]) ∧ (L 13 = false → σ.1.co = cx) ∧ (L 13 = true → σ.1.co = addC cx x.cost) ∧ (L 15 = true → σ.1.sA = σ.1.A61 ∧ σ.1.sn = x.n + 1 ∧ σ.1.sc = σ.1.c61) ∧ (L 7 = true → L 11 = false → Own W V.heap.size 3 1 σ.1.A57 x.n σ.1.c57 (List.map (Value.int .i64) x.links)) ∧ (L 10 = true → L 11 = false → Blk W σ.1.b60 3 #[.int .i64 lk.id] ∧ V.heap.size ≤ σ.1.b60) ∧ (L 11 = true → Own W V.heap.size 3 1 σ.1.A61 (x.n + 1) σ.1.c61 (List.map (Value.int .i64) (x.links ++ [lk.id]))) ∧ (L 0 = true → σ.2 50 = .pointer (some ⟨Bx + 1, 1, none⟩)) ∧ (L 1 = true → σ.2 51 = .agg #[.int .i64 cx.a, .int .i64 cx.b, .int .i64 cx.c, .int .i64 cx.d]) ∧ (L 2 = true → σ.2 52 = .pointer (some ⟨w1.heap.size, 1, none⟩)) ∧ (L 3 = true → σ.2 53 = .agg #[.int .i64 x.cost.a, .int .i64 x.cost.b, .int .i64 x.cost.c, .int .i64 x.cost.d]) ∧ (L 4 = true → σ.2 54 = .agg #[.int .i64 (addC cx x.cost).a, .int .i64 (addC cx x.cost).b, .int .i64 (addC cx x.cost).c, .int .i64 (addC cx x.cost).d]) ∧ (L 5 = true → σ.2 55 = .pointer (some ⟨w1.heap.size, 5, none⟩)) ∧ (L 6 = true → σ.2 56 = .slice x.A x.n x.cap) ∧ (L 7 = true → σ.2 57 = .slice σ.1.A57 x.n σ.1.c57) ∧ (L 8 = true → σ.2 58 = .pointer (some ⟨Bx, 0, none⟩)) ∧ (L 9 = true → σ.2 59 = .int .i64 lk.id) ∧ (L 10 = true → σ.2 60 = .slice (some ⟨σ.1.b60, 0, none⟩) 1 1) ∧ (L 11 = true → σ.2 61 = .slice σ.1.A61 (x.n + 1) σ.1.c61) ∧ (L 12 = true → σ.2 62 = .pointer (some ⟨Bx + 1, 1, none⟩)) ∧ (L 14 = true → σ.2 63 = .pointer (some ⟨Bx + 1, 5, none⟩)))
            ((⟨cx, none, 0, 0, none, 0, 0, none, 0⟩ : AGh), fun k => undef) rfl ?_ ?_ ?_
          · exact ⟨(grown_drew (grown_refl _ _) 1), HBYV.out, (fun _ => rfl), (fun h => by cases h), (fun h => by cases h), (fun h => by cases h), (fun h => by cases h), (fun h => by cases h), (fun h => by cases h), (fun h => by cases h), (fun h => by cases h), (fun h => by cases h), (fun h => by cases h), (fun h => by cases h), (fun h => by cases h), (fun h => by cases h), (fun h => by cases h), (fun h => by cases h), (fun h => by cases h), (fun h => by cases h), (fun h => by cases h), (fun h => by cases h)⟩
          · refine ⟨?_, ?_, ?_, ?_, ?_, ?_, ?_, ?_, ?_, ?_, ?_, ?_, ?_, ?_, ?_, ?_, trivial⟩
            · rintro L ⟨gh, s⟩ W hu hd hdn ⟨gW, gN, gC, gCt, gSt, gA, gB, gD, f0, f1, f2, f3, f4, f5, f6, f7, f8, f9, f10, f11, f12, f14⟩ K Q hK
              try dsimp only at gW gN gC gCt gSt gA gB gD f0 f1 f2 f3 f4 f5 f6 f7 f8 f9 f10 f11 f12 f14 ⊢
              have HF := Lib.hid (show (V.grownBy W (some (Bx + 1))) ∧ (Blk W (Bx + 1) 111 #[.int .i64 v, .int .i64 gh.co.a, .int .i64 gh.co.b, .int .i64 gh.co.c, .int .i64 gh.co.d, .slice gh.sA gh.sn gh.sc]) ∧ (L 13 = false → gh.co = cx) ∧ (L 13 = true → gh.co = addC cx x.cost) ∧ (L 15 = true → gh.sA = gh.A61 ∧ gh.sn = x.n + 1 ∧ gh.sc = gh.c61) ∧ (L 7 = true → L 11 = false → Own W V.heap.size 3 1 gh.A57 x.n gh.c57 (List.map (Value.int .i64) x.links)) ∧ (L 10 = true → L 11 = false → Blk W gh.b60 3 #[.int .i64 lk.id] ∧ V.heap.size ≤ gh.b60) ∧ (L 11 = true → Own W V.heap.size 3 1 gh.A61 (x.n + 1) gh.c61 (List.map (Value.int .i64) (x.links ++ [lk.id]))) ∧ (L 0 = true → s 50 = .pointer (some ⟨Bx + 1, 1, none⟩)) ∧ (L 1 = true → s 51 = .agg #[.int .i64 cx.a, .int .i64 cx.b, .int .i64 cx.c, .int .i64 cx.d]) ∧ (L 2 = true → s 52 = .pointer (some ⟨w1.heap.size, 1, none⟩)) ∧ (L 3 = true → s 53 = .agg #[.int .i64 x.cost.a, .int .i64 x.cost.b, .int .i64 x.cost.c, .int .i64 x.cost.d]) ∧ (L 4 = true → s 54 = .agg #[.int .i64 (addC cx x.cost).a, .int .i64 (addC cx x.cost).b, .int .i64 (addC cx x.cost).c, .int .i64 (addC cx x.cost).d]) ∧ (L 5 = true → s 55 = .pointer (some ⟨w1.heap.size, 5, none⟩)) ∧ (L 6 = true → s 56 = .slice x.A x.n x.cap) ∧ (L 7 = true → s 57 = .slice gh.A57 x.n gh.c57) ∧ (L 8 = true → s 58 = .pointer (some ⟨Bx, 0, none⟩)) ∧ (L 9 = true → s 59 = .int .i64 lk.id) ∧ (L 10 = true → s 60 = .slice (some ⟨gh.b60, 0, none⟩) 1 1) ∧ (L 11 = true → s 61 = .slice gh.A61 (x.n + 1) gh.c61) ∧ (L 12 = true → s 62 = .pointer (some ⟨Bx + 1, 1, none⟩)) ∧ (L 14 = true → s 63 = .pointer (some ⟨Bx + 1, 5, none⟩)) from ⟨gW, gN, gC, gCt, gSt, gA, gB, gD, f0, f1, f2, f3, f4, f5, f6, f7, f8, f9, f10, f11, f12, f14⟩)
              clear f14 f12 f11 f10 f9 f8 f7 f6 f5 f4 f3 f2 f1 f0 gD gB gA gSt gCt gC gN gW hd
              try simp only
              gi_wp2
              obtain ⟨gW, gN, gC, gCt, gSt, gA, gB, gD, f0, f1, f2, f3, f4, f5, f6, f7, f8, f9, f10, f11, f12, f14⟩ := HF.out
              exact hK (gh, (upd s 50 (.pointer (some ⟨Bx + 1, 1, none⟩)))) _ ⟨gW, gN, gC, gCt, gSt, gA, gB, gD, (fun _ => rfl), f1, f2, f3, f4, f5, f6, f7, f8, f9, f10, f11, f12, f14⟩
            · rintro L ⟨gh, s⟩ W hu hd hdn ⟨gW, gN, gC, gCt, gSt, gA, gB, gD, f0, f1, f2, f3, f4, f5, f6, f7, f8, f9, f10, f11, f12, f14⟩ K Q hK
              try dsimp only at gW gN gC gCt gSt gA gB gD f0 f1 f2 f3 f4 f5 f6 f7 f8 f9 f10 f11 f12 f14 ⊢
              have e0 := f0 (hd.at_ 0 rfl)
              have h13 : L 13 = false := by
                cases hc : L 13 with
                | false => rfl
                | true => exact hdn.no 13 1 hc rfl hu
              have G := gN
              rw [gC h13] at G
              have c1 : W.cell? ⟨Bx + 1, 1, none⟩ = some (.int .i64 cx.a) := G.cell 1
              have c2 : W.cell? ⟨Bx + 1, 2, none⟩ = some (.int .i64 cx.b) := G.cell 2
              have c3 : W.cell? ⟨Bx + 1, 3, none⟩ = some (.int .i64 cx.c) := G.cell 3
              have c4 : W.cell? ⟨Bx + 1, 4, none⟩ = some (.int .i64 cx.d) := G.cell 4
              clear G
              have HF := Lib.hid (show (V.grownBy W (some (Bx + 1))) ∧ (Blk W (Bx + 1) 111 #[.int .i64 v, .int .i64 gh.co.a, .int .i64 gh.co.b, .int .i64 gh.co.c, .int .i64 gh.co.d, .slice gh.sA gh.sn gh.sc]) ∧ (L 13 = false → gh.co = cx) ∧ (L 13 = true → gh.co = addC cx x.cost) ∧ (L 15 = true → gh.sA = gh.A61 ∧ gh.sn = x.n + 1 ∧ gh.sc = gh.c61) ∧ (L 7 = true → L 11 = false → Own W V.heap.size 3 1 gh.A57 x.n gh.c57 (List.map (Value.int .i64) x.links)) ∧ (L 10 = true → L 11 = false → Blk W gh.b60 3 #[.int .i64 lk.id] ∧ V.heap.size ≤ gh.b60) ∧ (L 11 = true → Own W V.heap.size 3 1 gh.A61 (x.n + 1) gh.c61 (List.map (Value.int .i64) (x.links ++ [lk.id]))) ∧ (L 0 = true → s 50 = .pointer (some ⟨Bx + 1, 1, none⟩)) ∧ (L 1 = true → s 51 = .agg #[.int .i64 cx.a, .int .i64 cx.b, .int .i64 cx.c, .int .i64 cx.d]) ∧ (L 2 = true → s 52 = .pointer (some ⟨w1.heap.size, 1, none⟩)) ∧ (L 3 = true → s 53 = .agg #[.int .i64 x.cost.a, .int .i64 x.cost.b, .int .i64 x.cost.c, .int .i64 x.cost.d]) ∧ (L 4 = true → s 54 = .agg #[.int .i64 (addC cx x.cost).a, .int .i64 (addC cx x.cost).b, .int .i64 (addC cx x.cost).c, .int .i64 (addC cx x.cost).d]) ∧ (L 5 = true → s 55 = .pointer (some ⟨w1.heap.size, 5, none⟩)) ∧ (L 6 = true → s 56 = .slice x.A x.n x.cap) ∧ (L 7 = true → s 57 = .slice gh.A57 x.n gh.c57) ∧ (L 8 = true → s 58 = .pointer (some ⟨Bx, 0, none⟩)) ∧ (L 9 = true → s 59 = .int .i64 lk.id) ∧ (L 10 = true → s 60 = .slice (some ⟨gh.b60, 0, none⟩) 1 1) ∧ (L 11 = true → s 61 = .slice gh.A61 (x.n + 1) gh.c61) ∧ (L 12 = true → s 62 = .pointer (some ⟨Bx + 1, 1, none⟩)) ∧ (L 14 = true → s 63 = .pointer (some ⟨Bx + 1, 5, none⟩)) from ⟨gW, gN, gC, gCt, gSt, gA, gB, gD, f0, f1, f2, f3, f4, f5, f6, f7, f8, f9, f10, f11, f12, f14⟩)
              clear f14 f12 f11 f10 f9 f8 f7 f6 f5 f4 f3 f2 f1 f0 gD gB gA gSt gCt gC gN gW hd
              try simp only at e0 ⊢
              gi_wp2
              obtain ⟨gW, gN, gC, gCt, gSt, gA, gB, gD, f0, f1, f2, f3, f4, f5, f6, f7, f8, f9, f10, f11, f12, f14⟩ := HF.out
              exact hK (gh, (upd (upd s 50 (.pointer (some ⟨Bx + 1, 1, none⟩))) 51 (.agg #[.int .i64 cx.a, .int .i64 cx.b, .int .i64 cx.c, .int .i64 cx.d]))) _ ⟨gW, gN, gC, gCt, gSt, gA, gB, gD, (fun _ => rfl), (fun _ => rfl), f2, f3, f4, f5, f6, f7, f8, f9, f10, f11, f12, f14⟩
            · rintro L ⟨gh, s⟩ W hu hd hdn ⟨gW, gN, gC, gCt, gSt, gA, gB, gD, f0, f1, f2, f3, f4, f5, f6, f7, f8, f9, f10, f11, f12, f14⟩ K Q hK
              try dsimp only at gW gN gC gCt gSt gA gB gD f0 f1 f2 f3 f4 f5 f6 f7 f8 f9 f10 f11 f12 f14 ⊢
              have HF := Lib.hid (show (V.grownBy W (some (Bx + 1))) ∧ (Blk W (Bx + 1) 111 #[.int .i64 v, .int .i64 gh.co.a, .int .i64 gh.co.b, .int .i64 gh.co.c, .int .i64 gh.co.d, .slice gh.sA gh.sn gh.sc]) ∧ (L 13 = false → gh.co = cx) ∧ (L 13 = true → gh.co = addC cx x.cost) ∧ (L 15 = true → gh.sA = gh.A61 ∧ gh.sn = x.n + 1 ∧ gh.sc = gh.c61) ∧ (L 7 = true → L 11 = false → Own W V.heap.size 3 1 gh.A57 x.n gh.c57 (List.map (Value.int .i64) x.links)) ∧ (L 10 = true → L 11 = false → Blk W gh.b60 3 #[.int .i64 lk.id] ∧ V.heap.size ≤ gh.b60) ∧ (L 11 = true → Own W V.heap.size 3 1 gh.A61 (x.n + 1) gh.c61 (List.map (Value.int .i64) (x.links ++ [lk.id]))) ∧ (L 0 = true → s 50 = .pointer (some ⟨Bx + 1, 1, none⟩)) ∧ (L 1 = true → s 51 = .agg #[.int .i64 cx.a, .int .i64 cx.b, .int .i64 cx.c, .int .i64 cx.d]) ∧ (L 2 = true → s 52 = .pointer (some ⟨w1.heap.size, 1, none⟩)) ∧ (L 3 = true → s 53 = .agg #[.int .i64 x.cost.a, .int .i64 x.cost.b, .int .i64 x.cost.c, .int .i64 x.cost.d]) ∧ (L 4 = true → s 54 = .agg #[.int .i64 (addC cx x.cost).a, .int .i64 (addC cx x.cost).b, .int .i64 (addC cx x.cost).c, .int .i64 (addC cx x.cost).d]) ∧ (L 5 = true → s 55 = .pointer (some ⟨w1.heap.size, 5, none⟩)) ∧ (L 6 = true → s 56 = .slice x.A x.n x.cap) ∧ (L 7 = true → s 57 = .slice gh.A57 x.n gh.c57) ∧ (L 8 = true → s 58 = .pointer (some ⟨Bx, 0, none⟩)) ∧ (L 9 = true → s 59 = .int .i64 lk.id) ∧ (L 10 = true → s 60 = .slice (some ⟨gh.b60, 0, none⟩) 1 1) ∧ (L 11 = true → s 61 = .slice gh.A61 (x.n + 1) gh.c61) ∧ (L 12 = true → s 62 = .pointer (some ⟨Bx + 1, 1, none⟩)) ∧ (L 14 = true → s 63 = .pointer (some ⟨Bx + 1, 5, none⟩)) from ⟨gW, gN, gC, gCt, gSt, gA, gB, gD, f0, f1, f2, f3, f4, f5, f6, f7, f8, f9, f10, f11, f12, f14⟩)
              clear f14 f12 f11 f10 f9 f8 f7 f6 f5 f4 f3 f2 f1 f0 gD gB gA gSt gCt gC gN gW hd
              try simp only
              gi_wp2
              obtain ⟨gW, gN, gC, gCt, gSt, gA, gB, gD, f0, f1, f2, f3, f4, f5, f6, f7, f8, f9, f10, f11, f12, f14⟩ := HF.out
              exact hK (gh, (upd s 52 (.pointer (some ⟨w1.heap.size, 1, none⟩)))) _ ⟨gW, gN, gC, gCt, gSt, gA, gB, gD, f0, f1, (fun _ => rfl), f3, f4, f5, f6, f7, f8, f9, f10, f11, f12, f14⟩
            · rintro L ⟨gh, s⟩ W hu hd hdn ⟨gW, gN, gC, gCt, gSt, gA, gB, gD, f0, f1, f2, f3, f4, f5, f6, f7, f8, f9, f10, f11, f12, f14⟩ K Q hK
              try dsimp only at gW gN gC gCt gSt gA gB gD f0 f1 f2 f3 f4 f5 f6 f7 f8 f9 f10 f11 f12 f14 ⊢
              have e2 := f2 (hd.at_ 2 rfl)
              have G := HIV.out.b7.grown gW (by simp; omega)
              have c0 : W.cell? ⟨w1.heap.size, 0, none⟩ = some (.int .i64 x.to) := G.cell 0
              have c1 : W.cell? ⟨w1.heap.size, 1, none⟩ = some (.int .i64 x.cost.a) := G.cell 1
              have c2 : W.cell? ⟨w1.heap.size, 2, none⟩ = some (.int .i64 x.cost.b) := G.cell 2
              have c3 : W.cell? ⟨w1.heap.size, 3, none⟩ = some (.int .i64 x.cost.c) := G.cell 3
              have c4 : W.cell? ⟨w1.heap.size, 4, none⟩ = some (.int .i64 x.cost.d) := G.cell 4
              have c5 : W.cell? ⟨w1.heap.size, 5, none⟩ = some (.slice x.A x.n x.cap) := G.cell 5
              clear G
              have HF := Lib.hid (show (V.grownBy W (some (Bx + 1))) ∧ (Blk W (Bx + 1) 111 #[.int .i64 v, .int .i64 gh.co.a, .int .i64 gh.co.b, .int .i64 gh.co.c, .int .i64 gh.co.d, .slice gh.sA gh.sn gh.sc]) ∧ (L 13 = false → gh.co = cx) ∧ (L 13 = true → gh.co = addC cx x.cost) ∧ (L 15 = true → gh.sA = gh.A61 ∧ gh.sn = x.n + 1 ∧ gh.sc = gh.c61) ∧ (L 7 = true → L 11 = false → Own W V.heap.size 3 1 gh.A57 x.n gh.c57 (List.map (Value.int .i64) x.links)) ∧ (L 10 = true → L 11 = false → Blk W gh.b60 3 #[.int .i64 lk.id] ∧ V.heap.size ≤ gh.b60) ∧ (L 11 = true → Own W V.heap.size 3 1 gh.A61 (x.n + 1) gh.c61 (List.map (Value.int .i64) (x.links ++ [lk.id]))) ∧ (L 0 = true → s 50 = .pointer (some ⟨Bx + 1, 1, none⟩)) ∧ (L 1 = true → s 51 = .agg #[.int .i64 cx.a, .int .i64 cx.b, .int .i64 cx.c, .int .i64 cx.d]) ∧ (L 2 = true → s 52 = .pointer (some ⟨w1.heap.size, 1, none⟩)) ∧ (L 3 = true → s 53 = .agg #[.int .i64 x.cost.a, .int .i64 x.cost.b, .int .i64 x.cost.c, .int .i64 x.cost.d]) ∧ (L 4 = true → s 54 = .agg #[.int .i64 (addC cx x.cost).a, .int .i64 (addC cx x.cost).b, .int .i64 (addC cx x.cost).c, .int .i64 (addC cx x.cost).d]) ∧ (L 5 = true → s 55 = .pointer (some ⟨w1.heap.size, 5, none⟩)) ∧ (L 6 = true → s 56 = .slice x.A x.n x.cap) ∧ (L 7 = true → s 57 = .slice gh.A57 x.n gh.c57) ∧ (L 8 = true → s 58 = .pointer (some ⟨Bx, 0, none⟩)) ∧ (L 9 = true → s 59 = .int .i64 lk.id) ∧ (L 10 = true → s 60 = .slice (some ⟨gh.b60, 0, none⟩) 1 1) ∧ (L 11 = true → s 61 = .slice gh.A61 (x.n + 1) gh.c61) ∧ (L 12 = true → s 62 = .pointer (some ⟨Bx + 1, 1, none⟩)) ∧ (L 14 = true → s 63 = .pointer (some ⟨Bx + 1, 5, none⟩)) from ⟨gW, gN, gC, gCt, gSt, gA, gB, gD, f0, f1, f2, f3, f4, f5, f6, f7, f8, f9, f10, f11, f12, f14⟩)
              clear f14 f12 f11 f10 f9 f8 f7 f6 f5 f4 f3 f2 f1 f0 gD gB gA gSt gCt gC gN gW hd
              try simp only at e2 ⊢
              gi_wp2
              obtain ⟨gW, gN, gC, gCt, gSt, gA, gB, gD, f0, f1, f2, f3, f4, f5, f6, f7, f8, f9, f10, f11, f12, f14⟩ := HF.out
              exact hK (gh, (upd (upd s 52 (.pointer (some ⟨w1.heap.size, 1, none⟩))) 53 (.agg #[.int .i64 x.cost.a, .int .i64 x.cost.b, .int .i64 x.cost.c, .int .i64 x.cost.d]))) _ ⟨gW, gN, gC, gCt, gSt, gA, gB, gD, f0, f1, (fun _ => rfl), (fun _ => rfl), f4, f5, f6, f7, f8, f9, f10, f11, f12, f14⟩
            · rintro L ⟨gh, s⟩ W hu hd hdn ⟨gW, gN, gC, gCt, gSt, gA, gB, gD, f0, f1, f2, f3, f4, f5, f6, f7, f8, f9, f10, f11, f12, f14⟩ K Q hK
              try dsimp only at gW gN gC gCt gSt gA gB gD f0 f1 f2 f3 f4 f5 f6 f7 f8 f9 f10 f11 f12 f14 ⊢
              have e1 := f1 (hd.at_ 1 rfl)
              have e3 := f3 (hd.at_ 3 rfl)
              have HF := Lib.hid (show (V.grownBy W (some (Bx + 1))) ∧ (Blk W (Bx + 1) 111 #[.int .i64 v, .int .i64 gh.co.a, .int .i64 gh.co.b, .int .i64 gh.co.c, .int .i64 gh.co.d, .slice gh.sA gh.sn gh.sc]) ∧ (L 13 = false → gh.co = cx) ∧ (L 13 = true → gh.co = addC cx x.cost) ∧ (L 15 = true → gh.sA = gh.A61 ∧ gh.sn = x.n + 1 ∧ gh.sc = gh.c61) ∧ (L 7 = true → L 11 = false → Own W V.heap.size 3 1 gh.A57 x.n gh.c57 (List.map (Value.int .i64) x.links)) ∧ (L 10 = true → L 11 = false → Blk W gh.b60 3 #[.int .i64 lk.id] ∧ V.heap.size ≤ gh.b60) ∧ (L 11 = true → Own W V.heap.size 3 1 gh.A61 (x.n + 1) gh.c61 (List.map (Value.int .i64) (x.links ++ [lk.id]))) ∧ (L 0 = true → s 50 = .pointer (some ⟨Bx + 1, 1, none⟩)) ∧ (L 1 = true → s 51 = .agg #[.int .i64 cx.a, .int .i64 cx.b, .int .i64 cx.c, .int .i64 cx.d]) ∧ (L 2 = true → s 52 = .pointer (some ⟨w1.heap.size, 1, none⟩)) ∧ (L 3 = true → s 53 = .agg #[.int .i64 x.cost.a, .int .i64 x.cost.b, .int .i64 x.cost.c, .int .i64 x.cost.d]) ∧ (L 4 = true → s 54 = .agg #[.int .i64 (addC cx x.cost).a, .int .i64 (addC cx x.cost).b, .int .i64 (addC cx x.cost).c, .int .i64 (addC cx x.cost).d]) ∧ (L 5 = true → s 55 = .pointer (some ⟨w1.heap.size, 5, none⟩)) ∧ (L 6 = true → s 56 = .slice x.A x.n x.cap) ∧ (L 7 = true → s 57 = .slice gh.A57 x.n gh.c57) ∧ (L 8 = true → s 58 = .pointer (some ⟨Bx, 0, none⟩)) ∧ (L 9 = true → s 59 = .int .i64 lk.id) ∧ (L 10 = true → s 60 = .slice (some ⟨gh.b60, 0, none⟩) 1 1) ∧ (L 11 = true → s 61 = .slice gh.A61 (x.n + 1) gh.c61) ∧ (L 12 = true → s 62 = .pointer (some ⟨Bx + 1, 1, none⟩)) ∧ (L 14 = true → s 63 = .pointer (some ⟨Bx + 1, 5, none⟩)) from ⟨gW, gN, gC, gCt, gSt, gA, gB, gD, f0, f1, f2, f3, f4, f5, f6, f7, f8, f9, f10, f11, f12, f14⟩)
              clear f14 f12 f11 f10 f9 f8 f7 f6 f5 f4 f3 f2 f1 f0 gD gB gA gSt gCt gC gN gW hd
              try simp only at e1 e3 ⊢
              gi_wp2
              refine ⟨trivial, (CallsIn.inRound l' (callsIn_wide.2 (plus_any cx x.cost W HSM.out.1 HSM.out.2))).mono ?_⟩
              rintro e W2 ⟨rfl, hb⟩
              gi_wp2
              obtain ⟨gW, gN, gC, gCt, gSt, gA, gB, gD, f0, f1, f2, f3, f4, f5, f6, f7, f8, f9, f10, f11, f12, f14⟩ := HF.out
              exact hK (gh, (upd (upd (upd s 51 (.agg #[.int .i64 cx.a, .int .i64 cx.b, .int .i64 cx.c, .int .i64 cx.d])) 53 (.agg #[.int .i64 x.cost.a, .int .i64 x.cost.b, .int .i64 x.cost.c, .int .i64 x.cost.d])) 54 (.agg #[.int .i64 (addC cx x.cost).a, .int .i64 (addC cx x.cost).b, .int .i64 (addC cx x.cost).c, .int .i64 (addC cx x.cost).d]))) _ ⟨(grown_below gW hb), (gN.below hb gN.lt), gC, gCt, gSt, (fun h1 h2 => (gA h1 h2).below hb (Nat.le_refl _)), (fun h1 h2 => ⟨(gB h1 h2).1.below hb (gB h1 h2).1.lt, (gB h1 h2).2⟩), (fun h1 => (gD h1).below hb (Nat.le_refl _)), f0, (fun _ => rfl), f2, (fun _ => rfl), (fun _ => rfl), f5, f6, f7, f8, f9, f10, f11, f12, f14⟩
            · rintro L ⟨gh, s⟩ W hu hd hdn ⟨gW, gN, gC, gCt, gSt, gA, gB, gD, f0, f1, f2, f3, f4, f5, f6, f7, f8, f9, f10, f11, f12, f14⟩ K Q hK
              try dsimp only at gW gN gC gCt gSt gA gB gD f0 f1 f2 f3 f4 f5 f6 f7 f8 f9 f10 f11 f12 f14 ⊢
              have HF := Lib.hid (show (V.grownBy W (some (Bx + 1))) ∧ (Blk W (Bx + 1) 111 #[.int .i64 v, .int .i64 gh.co.a, .int .i64 gh.co.b, .int .i64 gh.co.c, .int .i64 gh.co.d, .slice gh.sA gh.sn gh.sc]) ∧ (L 13 = false → gh.co = cx) ∧ (L 13 = true → gh.co = addC cx x.cost) ∧ (L 15 = true → gh.sA = gh.A61 ∧ gh.sn = x.n + 1 ∧ gh.sc = gh.c61) ∧ (L 7 = true → L 11 = false → Own W V.heap.size 3 1 gh.A57 x.n gh.c57 (List.map (Value.int .i64) x.links)) ∧ (L 10 = true → L 11 = false → Blk W gh.b60 3 #[.int .i64 lk.id] ∧ V.heap.size ≤ gh.b60) ∧ (L 11 = true → Own W V.heap.size 3 1 gh.A61 (x.n + 1) gh.c61 (List.map (Value.int .i64) (x.links ++ [lk.id]))) ∧ (L 0 = true → s 50 = .pointer (some ⟨Bx + 1, 1, none⟩)) ∧ (L 1 = true → s 51 = .agg #[.int .i64 cx.a, .int .i64 cx.b, .int .i64 cx.c, .int .i64 cx.d]) ∧ (L 2 = true → s 52 = .pointer (some ⟨w1.heap.size, 1, none⟩)) ∧ (L 3 = true → s 53 = .agg #[.int .i64 x.cost.a, .int .i64 x.cost.b, .int .i64 x.cost.c, .int .i64 x.cost.d]) ∧ (L 4 = true → s 54 = .agg #[.int .i64 (addC cx x.cost).a, .int .i64 (addC cx x.cost).b, .int .i64 (addC cx x.cost).c, .int .i64 (addC cx x.cost).d]) ∧ (L 5 = true → s 55 = .pointer (some ⟨w1.heap.size, 5, none⟩)) ∧ (L 6 = true → s 56 = .slice x.A x.n x.cap) ∧ (L 7 = true → s 57 = .slice gh.A57 x.n gh.c57) ∧ (L 8 = true → s 58 = .pointer (some ⟨Bx, 0, none⟩)) ∧ (L 9 = true → s 59 = .int .i64 lk.id) ∧ (L 10 = true → s 60 = .slice (some ⟨gh.b60, 0, none⟩) 1 1) ∧ (L 11 = true → s 61 = .slice gh.A61 (x.n + 1) gh.c61) ∧ (L 12 = true → s 62 = .pointer (some ⟨Bx + 1, 1, none⟩)) ∧ (L 14 = true → s 63 = .pointer (some ⟨Bx + 1, 5, none⟩)) from ⟨gW, gN, gC, gCt, gSt, gA, gB, gD, f0, f1, f2, f3, f4, f5, f6, f7, f8, f9, f10, f11, f12, f14⟩)
              clear f14 f12 f11 f10 f9 f8 f7 f6 f5 f4 f3 f2 f1 f0 gD gB gA gSt gCt gC gN gW hd
              try simp only
              gi_wp2
              obtain ⟨gW, gN, gC, gCt, gSt, gA, gB, gD, f0, f1, f2, f3, f4, f5, f6, f7, f8, f9, f10, f11, f12, f14⟩ := HF.out
              exact hK (gh, (upd s 55 (.pointer (some ⟨w1.heap.size, 5, none⟩)))) _ ⟨gW, gN, gC, gCt, gSt, gA, gB, gD, f0, f1, f2, f3, f4, (fun _ => rfl), f6, f7, f8, f9, f10, f11, f12, f14⟩
            · rintro L ⟨gh, s⟩ W hu hd hdn ⟨gW, gN, gC, gCt, gSt, gA, gB, gD, f0, f1, f2, f3, f4, f5, f6, f7, f8, f9, f10, f11, f12, f14⟩ K Q hK
              try dsimp only at gW gN gC gCt gSt gA gB gD f0 f1 f2 f3 f4 f5 f6 f7 f8 f9 f10 f11 f12 f14 ⊢
              have e5 := f5 (hd.at_ 5 rfl)
              have G := HIV.out.b7.grown gW (by simp; omega)
              have c0 : W.cell? ⟨w1.heap.size, 0, none⟩ = some (.int .i64 x.to) := G.cell 0
              have c1 : W.cell? ⟨w1.heap.size, 1, none⟩ = some (.int .i64 x.cost.a) := G.cell 1
              have c2 : W.cell? ⟨w1.heap.size, 2, none⟩ = some (.int .i64 x.cost.b) := G.cell 2
              have c3 : W.cell? ⟨w1.heap.size, 3, none⟩ = some (.int .i64 x.cost.c) := G.cell 3
              have c4 : W.cell? ⟨w1.heap.size, 4, none⟩ = some (.int .i64 x.cost.d) := G.cell 4
              have c5 : W.cell? ⟨w1.heap.size, 5, none⟩ = some (.slice x.A x.n x.cap) := G.cell 5
              clear G
              have HF := Lib.hid (show (V.grownBy W (some (Bx + 1))) ∧ (Blk W (Bx + 1) 111 #[.int .i64 v, .int .i64 gh.co.a, .int .i64 gh.co.b, .int .i64 gh.co.c, .int .i64 gh.co.d, .slice gh.sA gh.sn gh.sc]) ∧ (L 13 = false → gh.co = cx) ∧ (L 13 = true → gh.co = addC cx x.cost) ∧ (L 15 = true → gh.sA = gh.A61 ∧ gh.sn = x.n + 1 ∧ gh.sc = gh.c61) ∧ (L 7 = true → L 11 = false → Own W V.heap.size 3 1 gh.A57 x.n gh.c57 (List.map (Value.int .i64) x.links)) ∧ (L 10 = true → L 11 = false → Blk W gh.b60 3 #[.int .i64 lk.id] ∧ V.heap.size ≤ gh.b60) ∧ (L 11 = true → Own W V.heap.size 3 1 gh.A61 (x.n + 1) gh.c61 (List.map (Value.int .i64) (x.links ++ [lk.id]))) ∧ (L 0 = true → s 50 = .pointer (some ⟨Bx + 1, 1, none⟩)) ∧ (L 1 = true → s 51 = .agg #[.int .i64 cx.a, .int .i64 cx.b, .int .i64 cx.c, .int .i64 cx.d]) ∧ (L 2 = true → s 52 = .pointer (some ⟨w1.heap.size, 1, none⟩)) ∧ (L 3 = true → s 53 = .agg #[.int .i64 x.cost.a, .int .i64 x.cost.b, .int .i64 x.cost.c, .int .i64 x.cost.d]) ∧ (L 4 = true → s 54 = .agg #[.int .i64 (addC cx x.cost).a, .int .i64 (addC cx x.cost).b, .int .i64 (addC cx x.cost).c, .int .i64 (addC cx x.cost).d]) ∧ (L 5 = true → s 55 = .pointer (some ⟨w1.heap.size, 5, none⟩)) ∧ (L 6 = true → s 56 = .slice x.A x.n x.cap) ∧ (L 7 = true → s 57 = .slice gh.A57 x.n gh.c57) ∧ (L 8 = true → s 58 = .pointer (some ⟨Bx, 0, none⟩)) ∧ (L 9 = true → s 59 = .int .i64 lk.id) ∧ (L 10 = true → s 60 = .slice (some ⟨gh.b60, 0, none⟩) 1 1) ∧ (L 11 = true → s 61 = .slice gh.A61 (x.n + 1) gh.c61) ∧ (L 12 = true → s 62 = .pointer (some ⟨Bx + 1, 1, none⟩)) ∧ (L 14 = true → s 63 = .pointer (some ⟨Bx + 1, 5, none⟩)) from ⟨gW, gN, gC, gCt, gSt, gA, gB, gD, f0, f1, f2, f3, f4, f5, f6, f7, f8, f9, f10, f11, f12, f14⟩)
              clear f14 f12 f11 f10 f9 f8 f7 f6 f5 f4 f3 f2 f1 f0 gD gB gA gSt gCt gC gN gW hd
              try simp only at e5 ⊢
              gi_wp2
              obtain ⟨gW, gN, gC, gCt, gSt, gA, gB, gD, f0, f1, f2, f3, f4, f5, f6, f7, f8, f9, f10, f11, f12, f14⟩ := HF.out
              exact hK (gh, (upd (upd s 55 (.pointer (some ⟨w1.heap.size, 5, none⟩))) 56 (.slice x.A x.n x.cap))) _ ⟨gW, gN, gC, gCt, gSt, gA, gB, gD, f0, f1, f2, f3, f4, (fun _ => rfl), (fun _ => rfl), f7, f8, f9, f10, f11, f12, f14⟩
            · rintro L ⟨gh, s⟩ W hu hd hdn ⟨gW, gN, gC, gCt, gSt, gA, gB, gD, f0, f1, f2, f3, f4, f5, f6, f7, f8, f9, f10, f11, f12, f14⟩ K Q hK
              try dsimp only at gW gN gC gCt gSt gA gB gD f0 f1 f2 f3 f4 f5 f6 f7 f8 f9 f10 f11 f12 f14 ⊢
              have e6 := f6 (hd.at_ 6 rfl)
              have HXA : Hid (IntsAt W W.heap.size x.A x.n x.links) := Lib.hid ((ints_keep HIV.out.xat (fun b cs ty fr hb hlt => (gW.block b (Array.getElem?_eq_some_iff.1 hb).1 (fun e => by cases e; omega)).trans hb)).more (by have := gW.size; have := HIV.out.b7.lt; omega))
              have HF := Lib.hid (show (V.grownBy W (some (Bx + 1))) ∧ (Blk W (Bx + 1) 111 #[.int .i64 v, .int .i64 gh.co.a, .int .i64 gh.co.b, .int .i64 gh.co.c, .int .i64 gh.co.d, .slice gh.sA gh.sn gh.sc]) ∧ (L 13 = false → gh.co = cx) ∧ (L 13 = true → gh.co = addC cx x.cost) ∧ (L 15 = true → gh.sA = gh.A61 ∧ gh.sn = x.n + 1 ∧ gh.sc = gh.c61) ∧ (L 7 = true → L 11 = false → Own W V.heap.size 3 1 gh.A57 x.n gh.c57 (List.map (Value.int .i64) x.links)) ∧ (L 10 = true → L 11 = false → Blk W gh.b60 3 #[.int .i64 lk.id] ∧ V.heap.size ≤ gh.b60) ∧ (L 11 = true → Own W V.heap.size 3 1 gh.A61 (x.n + 1) gh.c61 (List.map (Value.int .i64) (x.links ++ [lk.id]))) ∧ (L 0 = true → s 50 = .pointer (some ⟨Bx + 1, 1, none⟩)) ∧ (L 1 = true → s 51 = .agg #[.int .i64 cx.a, .int .i64 cx.b, .int .i64 cx.c, .int .i64 cx.d]) ∧ (L 2 = true → s 52 = .pointer (some ⟨w1.heap.size, 1, none⟩)) ∧ (L 3 = true → s 53 = .agg #[.int .i64 x.cost.a, .int .i64 x.cost.b, .int .i64 x.cost.c, .int .i64 x.cost.d]) ∧ (L 4 = true → s 54 = .agg #[.int .i64 (addC cx x.cost).a, .int .i64 (addC cx x.cost).b, .int .i64 (addC cx x.cost).c, .int .i64 (addC cx x.cost).d]) ∧ (L 5 = true → s 55 = .pointer (some ⟨w1.heap.size, 5, none⟩)) ∧ (L 6 = true → s 56 = .slice x.A x.n x.cap) ∧ (L 7 = true → s 57 = .slice gh.A57 x.n gh.c57) ∧ (L 8 = true → s 58 = .pointer (some ⟨Bx, 0, none⟩)) ∧ (L 9 = true → s 59 = .int .i64 lk.id) ∧ (L 10 = true → s 60 = .slice (some ⟨gh.b60, 0, none⟩) 1 1) ∧ (L 11 = true → s 61 = .slice gh.A61 (x.n + 1) gh.c61) ∧ (L 12 = true → s 62 = .pointer (some ⟨Bx + 1, 1, none⟩)) ∧ (L 14 = true → s 63 = .pointer (some ⟨Bx + 1, 5, none⟩)) from ⟨gW, gN, gC, gCt, gSt, gA, gB, gD, f0, f1, f2, f3, f4, f5, f6, f7, f8, f9, f10, f11, f12, f14⟩)
              clear f14 f12 f11 f10 f9 f8 f7 f6 f5 f4 f3 f2 f1 f0 gD gB gA gSt gCt gC gN gW hd
              try simp only at e6 ⊢
              gi_wp2
              refine ⟨trivial, (CallsIn.inRound l' (callsIn_wide.2 (clone_int x.A x.n x.cap x.links W HXA.out (by have := HN9.out; unfold maxLen; omega) (by have := HN9.out; omega)))).mono ?_⟩
              rintro e W2 ⟨A7, c7, rfl, hown, _, hb⟩
              gi_wp2
              obtain ⟨gW, gN, gC, gCt, gSt, gA, gB, gD, f0, f1, f2, f3, f4, f5, f6, f7, f8, f9, f10, f11, f12, f14⟩ := HF.out
              exact hK (({ gh with A57 := A7, c57 := c7 } : AGh), (upd (upd s 56 (.slice x.A x.n x.cap)) 57 (.slice A7 x.n c7))) _ ⟨(grown_below gW hb), (gN.below hb gN.lt), gC, gCt, gSt, (fun _ _ => hown.mono gW.size), (fun h1 h2 => ⟨(gB h1 h2).1.below hb (gB h1 h2).1.lt, (gB h1 h2).2⟩), (fun h1 => (hdn.no 11 7 h1 rfl hu)), f0, f1, f2, f3, f4, f5, (fun _ => rfl), (fun _ => rfl), f8, f9, f10, f11, f12, f14⟩
            · rintro L ⟨gh, s⟩ W hu hd hdn ⟨gW, gN, gC, gCt, gSt, gA, gB, gD, f0, f1, f2, f3, f4, f5, f6, f7, f8, f9, f10, f11, f12, f14⟩ K Q hK
              try dsimp only at gW gN gC gCt gSt gA gB gD f0 f1 f2 f3 f4 f5 f6 f7 f8 f9 f10 f11 f12 f14 ⊢
              have HF := Lib.hid (show (V.grownBy W (some (Bx + 1))) ∧ (Blk W (Bx + 1) 111 #[.int .i64 v, .int .i64 gh.co.a, .int .i64 gh.co.b, .int .i64 gh.co.c, .int .i64 gh.co.d, .slice gh.sA gh.sn gh.sc]) ∧ (L 13 = false → gh.co = cx) ∧ (L 13 = true → gh.co = addC cx x.cost) ∧ (L 15 = true → gh.sA = gh.A61 ∧ gh.sn = x.n + 1 ∧ gh.sc = gh.c61) ∧ (L 7 = true → L 11 = false → Own W V.heap.size 3 1 gh.A57 x.n gh.c57 (List.map (Value.int .i64) x.links)) ∧ (L 10 = true → L 11 = false → Blk W gh.b60 3 #[.int .i64 lk.id] ∧ V.heap.size ≤ gh.b60) ∧ (L 11 = true → Own W V.heap.size 3 1 gh.A61 (x.n + 1) gh.c61 (List.map (Value.int .i64) (x.links ++ [lk.id]))) ∧ (L 0 = true → s 50 = .pointer (some ⟨Bx + 1, 1, none⟩)) ∧ (L 1 = true → s 51 = .agg #[.int .i64 cx.a, .int .i64 cx.b, .int .i64 cx.c, .int .i64 cx.d]) ∧ (L 2 = true → s 52 = .pointer (some ⟨w1.heap.size, 1, none⟩)) ∧ (L 3 = true → s 53 = .agg #[.int .i64 x.cost.a, .int .i64 x.cost.b, .int .i64 x.cost.c, .int .i64 x.cost.d]) ∧ (L 4 = true → s 54 = .agg #[.int .i64 (addC cx x.cost).a, .int .i64 (addC cx x.cost).b, .int .i64 (addC cx x.cost).c, .int .i64 (addC cx x.cost).d]) ∧ (L 5 = true → s 55 = .pointer (some ⟨w1.heap.size, 5, none⟩)) ∧ (L 6 = true → s 56 = .slice x.A x.n x.cap) ∧ (L 7 = true → s 57 = .slice gh.A57 x.n gh.c57) ∧ (L 8 = true → s 58 = .pointer (some ⟨Bx, 0, none⟩)) ∧ (L 9 = true → s 59 = .int .i64 lk.id) ∧ (L 10 = true → s 60 = .slice (some ⟨gh.b60, 0, none⟩) 1 1) ∧ (L 11 = true → s 61 = .slice gh.A61 (x.n + 1) gh.c61) ∧ (L 12 = true → s 62 = .pointer (some ⟨Bx + 1, 1, none⟩)) ∧ (L 14 = true → s 63 = .pointer (some ⟨Bx + 1, 5, none⟩)) from ⟨gW, gN, gC, gCt, gSt, gA, gB, gD, f0, f1, f2, f3, f4, f5, f6, f7, f8, f9, f10, f11, f12, f14⟩)
              clear f14 f12 f11 f10 f9 f8 f7 f6 f5 f4 f3 f2 f1 f0 gD gB gA gSt gCt gC gN gW hd
              try simp only
              gi_wp2
              obtain ⟨gW, gN, gC, gCt, gSt, gA, gB, gD, f0, f1, f2, f3, f4, f5, f6, f7, f8, f9, f10, f11, f12, f14⟩ := HF.out
              exact hK (gh, (upd s 58 (.pointer (some ⟨Bx, 0, none⟩)))) _ ⟨gW, gN, gC, gCt, gSt, gA, gB, gD, f0, f1, f2, f3, f4, f5, f6, f7, (fun _ => rfl), f9, f10, f11, f12, f14⟩
            · rintro L ⟨gh, s⟩ W hu hd hdn ⟨gW, gN, gC, gCt, gSt, gA, gB, gD, f0, f1, f2, f3, f4, f5, f6, f7, f8, f9, f10, f11, f12, f14⟩ K Q hK
              try dsimp only at gW gN gC gCt gSt gA gB gD f0 f1 f2 f3 f4 f5 f6 f7 f8 f9 f10 f11 f12 f14 ⊢
              have e8 := f8 (hd.at_ 8 rfl)
              have G := HBXV.out.grown gW (by simp)
              have c0 : W.cell? ⟨Bx, 0, none⟩ = some (.int .i64 lk.id) := G.cell 0
              clear G
              have HF := Lib.hid (show (V.grownBy W (some (Bx + 1))) ∧ (Blk W (Bx + 1) 111 #[.int .i64 v, .int .i64 gh.co.a, .int .i64 gh.co.b, .int .i64 gh.co.c, .int .i64 gh.co.d, .slice gh.sA gh.sn gh.sc]) ∧ (L 13 = false → gh.co = cx) ∧ (L 13 = true → gh.co = addC cx x.cost) ∧ (L 15 = true → gh.sA = gh.A61 ∧ gh.sn = x.n + 1 ∧ gh.sc = gh.c61) ∧ (L 7 = true → L 11 = false → Own W V.heap.size 3 1 gh.A57 x.n gh.c57 (List.map (Value.int .i64) x.links)) ∧ (L 10 = true → L 11 = false → Blk W gh.b60 3 #[.int .i64 lk.id] ∧ V.heap.size ≤ gh.b60) ∧ (L 11 = true → Own W V.heap.size 3 1 gh.A61 (x.n + 1) gh.c61 (List.map (Value.int .i64) (x.links ++ [lk.id]))) ∧ (L 0 = true → s 50 = .pointer (some ⟨Bx + 1, 1, none⟩)) ∧ (L 1 = true → s 51 = .agg #[.int .i64 cx.a, .int .i64 cx.b, .int .i64 cx.c, .int .i64 cx.d]) ∧ (L 2 = true → s 52 = .pointer (some ⟨w1.heap.size, 1, none⟩)) ∧ (L 3 = true → s 53 = .agg #[.int .i64 x.cost.a, .int .i64 x.cost.b, .int .i64 x.cost.c, .int .i64 x.cost.d]) ∧ (L 4 = true → s 54 = .agg #[.int .i64 (addC cx x.cost).a, .int .i64 (addC cx x.cost).b, .int .i64 (addC cx x.cost).c, .int .i64 (addC cx x.cost).d]) ∧ (L 5 = true → s 55 = .pointer (some ⟨w1.heap.size, 5, none⟩)) ∧ (L 6 = true → s 56 = .slice x.A x.n x.cap) ∧ (L 7 = true → s 57 = .slice gh.A57 x.n gh.c57) ∧ (L 8 = true → s 58 = .pointer (some ⟨Bx, 0, none⟩)) ∧ (L 9 = true → s 59 = .int .i64 lk.id) ∧ (L 10 = true → s 60 = .slice (some ⟨gh.b60, 0, none⟩) 1 1) ∧ (L 11 = true → s 61 = .slice gh.A61 (x.n + 1) gh.c61) ∧ (L 12 = true → s 62 = .pointer (some ⟨Bx + 1, 1, none⟩)) ∧ (L 14 = true → s 63 = .pointer (some ⟨Bx + 1, 5, none⟩)) from ⟨gW, gN, gC, gCt, gSt, gA, gB, gD, f0, f1, f2, f3, f4, f5, f6, f7, f8, f9, f10, f11, f12, f14⟩)
              clear f14 f12 f11 f10 f9 f8 f7 f6 f5 f4 f3 f2 f1 f0 gD gB gA gSt gCt gC gN gW hd
              try simp only at e8 ⊢
              gi_wp2
              obtain ⟨gW, gN, gC, gCt, gSt, gA, gB, gD, f0, f1, f2, f3, f4, f5, f6, f7, f8, f9, f10, f11, f12, f14⟩ := HF.out
              exact hK (gh, (upd (upd s 58 (.pointer (some ⟨Bx, 0, none⟩))) 59 (.int .i64 lk.id))) _ ⟨gW, gN, gC, gCt, gSt, gA, gB, gD, f0, f1, f2, f3, f4, f5, f6, f7, (fun _ => rfl), (fun _ => rfl), f10, f11, f12, f14⟩
            · rintro L ⟨gh, s⟩ W hu hd hdn ⟨gW, gN, gC, gCt, gSt, gA, gB, gD, f0, f1, f2, f3, f4, f5, f6, f7, f8, f9, f10, f11, f12, f14⟩ K Q hK
              try dsimp only at gW gN gC gCt gSt gA gB gD f0 f1 f2 f3 f4 f5 f6 f7 f8 f9 f10 f11 f12 f14 ⊢
              have e9 := f9 (hd.at_ 9 rfl)
              have HF := Lib.hid (show (V.grownBy W (some (Bx + 1))) ∧ (Blk W (Bx + 1) 111 #[.int .i64 v, .int .i64 gh.co.a, .int .i64 gh.co.b, .int .i64 gh.co.c, .int .i64 gh.co.d, .slice gh.sA gh.sn gh.sc]) ∧ (L 13 = false → gh.co = cx) ∧ (L 13 = true → gh.co = addC cx x.cost) ∧ (L 15 = true → gh.sA = gh.A61 ∧ gh.sn = x.n + 1 ∧ gh.sc = gh.c61) ∧ (L 7 = true → L 11 = false → Own W V.heap.size 3 1 gh.A57 x.n gh.c57 (List.map (Value.int .i64) x.links)) ∧ (L 10 = true → L 11 = false → Blk W gh.b60 3 #[.int .i64 lk.id] ∧ V.heap.size ≤ gh.b60) ∧ (L 11 = true → Own W V.heap.size 3 1 gh.A61 (x.n + 1) gh.c61 (List.map (Value.int .i64) (x.links ++ [lk.id]))) ∧ (L 0 = true → s 50 = .pointer (some ⟨Bx + 1, 1, none⟩)) ∧ (L 1 = true → s 51 = .agg #[.int .i64 cx.a, .int .i64 cx.b, .int .i64 cx.c, .int .i64 cx.d]) ∧ (L 2 = true → s 52 = .pointer (some ⟨w1.heap.size, 1, none⟩)) ∧ (L 3 = true → s 53 = .agg #[.int .i64 x.cost.a, .int .i64 x.cost.b, .int .i64 x.cost.c, .int .i64 x.cost.d]) ∧ (L 4 = true → s 54 = .agg #[.int .i64 (addC cx x.cost).a, .int .i64 (addC cx x.cost).b, .int .i64 (addC cx x.cost).c, .int .i64 (addC cx x.cost).d]) ∧ (L 5 = true → s 55 = .pointer (some ⟨w1.heap.size, 5, none⟩)) ∧ (L 6 = true → s 56 = .slice x.A x.n x.cap) ∧ (L 7 = true → s 57 = .slice gh.A57 x.n gh.c57) ∧ (L 8 = true → s 58 = .pointer (some ⟨Bx, 0, none⟩)) ∧ (L 9 = true → s 59 = .int .i64 lk.id) ∧ (L 10 = true → s 60 = .slice (some ⟨gh.b60, 0, none⟩) 1 1) ∧ (L 11 = true → s 61 = .slice gh.A61 (x.n + 1) gh.c61) ∧ (L 12 = true → s 62 = .pointer (some ⟨Bx + 1, 1, none⟩)) ∧ (L 14 = true → s 63 = .pointer (some ⟨Bx + 1, 5, none⟩)) from ⟨gW, gN, gC, gCt, gSt, gA, gB, gD, f0, f1, f2, f3, f4, f5, f6, f7, f8, f9, f10, f11, f12, f14⟩)
              clear f14 f12 f11 f10 f9 f8 f7 f6 f5 f4 f3 f2 f1 f0 gD gB gA gSt gCt gC gN gW hd
              try simp only at e9 ⊢
              gi_wp2
              obtain ⟨gW, gN, gC, gCt, gSt, gA, gB, gD, f0, f1, f2, f3, f4, f5, f6, f7, f8, f9, f10, f11, f12, f14⟩ := HF.out
              have hb : Below W.heap.size W (W.alloc (.cells #[.int .i64 lk.id] 3)) := (Below.refl _ _).alloc (Nat.le_refl _) _
              exact hK (({ gh with b60 := W.heap.size } : AGh), (upd (upd s 59 (.int .i64 lk.id)) 60 (.slice (some ⟨W.heap.size, 0, none⟩) 1 1))) _ ⟨(grown_below gW hb), (gN.below hb gN.lt), gC, gCt, gSt, (fun h1 h2 => (gA h1 h2).below hb (Nat.le_refl _)), (fun _ _ => ⟨Blk.new W _ _, gW.size⟩), (fun h1 => (hdn.no 11 10 h1 rfl hu)), f0, f1, f2, f3, f4, f5, f6, f7, f8, (fun _ => rfl), (fun _ => rfl), f11, f12, f14⟩
            · rintro L ⟨gh, s⟩ W hu hd hdn ⟨gW, gN, gC, gCt, gSt, gA, gB, gD, f0, f1, f2, f3, f4, f5, f6, f7, f8, f9, f10, f11, f12, f14⟩ K Q hK
              try dsimp only at gW gN gC gCt gSt gA gB gD f0 f1 f2 f3 f4 f5 f6 f7 f8 f9 f10 f11 f12 f14 ⊢
              have e7 := f7 (hd.at_ 7 rfl)
              have e10 := f10 (hd.at_ 10 rfl)
              have HOA := Lib.hid (gA (hd.at_ 7 rfl) hu)
              have HBB := Lib.hid (gB (hd.at_ 10 rfl) hu)
              have hVW : V.heap.size ≤ W.heap.size := gW.size
              have h15 : L 15 = false := by
                cases hc : L 15 with
                | false => rfl
                | true => exact hdn.no 15 11 hc rfl hu
              have HF := Lib.hid (show (V.grownBy W (some (Bx + 1))) ∧ (Blk W (Bx + 1) 111 #[.int .i64 v, .int .i64 gh.co.a, .int .i64 gh.co.b, .int .i64 gh.co.c, .int .i64 gh.co.d, .slice gh.sA gh.sn gh.sc]) ∧ (L 13 = false → gh.co = cx) ∧ (L 13 = true → gh.co = addC cx x.cost) ∧ (L 15 = true → gh.sA = gh.A61 ∧ gh.sn = x.n + 1 ∧ gh.sc = gh.c61) ∧ (L 7 = true → L 11 = false → Own W V.heap.size 3 1 gh.A57 x.n gh.c57 (List.map (Value.int .i64) x.links)) ∧ (L 10 = true → L 11 = false → Blk W gh.b60 3 #[.int .i64 lk.id] ∧ V.heap.size ≤ gh.b60) ∧ (L 11 = true → Own W V.heap.size 3 1 gh.A61 (x.n + 1) gh.c61 (List.map (Value.int .i64) (x.links ++ [lk.id]))) ∧ (L 0 = true → s 50 = .pointer (some ⟨Bx + 1, 1, none⟩)) ∧ (L 1 = true → s 51 = .agg #[.int .i64 cx.a, .int .i64 cx.b, .int .i64 cx.c, .int .i64 cx.d]) ∧ (L 2 = true → s 52 = .pointer (some ⟨w1.heap.size, 1, none⟩)) ∧ (L 3 = true → s 53 = .agg #[.int .i64 x.cost.a, .int .i64 x.cost.b, .int .i64 x.cost.c, .int .i64 x.cost.d]) ∧ (L 4 = true → s 54 = .agg #[.int .i64 (addC cx x.cost).a, .int .i64 (addC cx x.cost).b, .int .i64 (addC cx x.cost).c, .int .i64 (addC cx x.cost).d]) ∧ (L 5 = true → s 55 = .pointer (some ⟨w1.heap.size, 5, none⟩)) ∧ (L 6 = true → s 56 = .slice x.A x.n x.cap) ∧ (L 7 = true → s 57 = .slice gh.A57 x.n gh.c57) ∧ (L 8 = true → s 58 = .pointer (some ⟨Bx, 0, none⟩)) ∧ (L 9 = true → s 59 = .int .i64 lk.id) ∧ (L 10 = true → s 60 = .slice (some ⟨gh.b60, 0, none⟩) 1 1) ∧ (L 11 = true → s 61 = .slice gh.A61 (x.n + 1) gh.c61) ∧ (L 12 = true → s 62 = .pointer (some ⟨Bx + 1, 1, none⟩)) ∧ (L 14 = true → s 63 = .pointer (some ⟨Bx + 1, 5, none⟩)) from ⟨gW, gN, gC, gCt, gSt, gA, gB, gD, f0, f1, f2, f3, f4, f5, f6, f7, f8, f9, f10, f11, f12, f14⟩)
              clear f14 f12 f11 f10 f9 f8 f7 f6 f5 f4 f3 f2 f1 f0 gD gB gA gSt gCt gC gN gW hd
              try simp only at e7 e10 ⊢
              refine wpListIn_append_any rfl (.tmp 57) (.tmp 60) (by rfl) elem_int e7 HOA.out e10 (one_int (x := lk.id) HBB.out.1.lt (HBB.out.1.cell 0)) (ints_one _) (by have := HN9.out; unfold maxLen; omega) (by have := HN9.out; omega) hVW ?_
              rintro A8 c8 W2 hown hg hA8
              have hbV : Below V.heap.size W W2 := below_of_grown hg (fun k hk => own_row HOA.out hk) hVW
              gi_wp2
              obtain ⟨gW, gN, gC, gCt, gSt, gA, gB, gD, f0, f1, f2, f3, f4, f5, f6, f7, f8, f9, f10, f11, f12, f14⟩ := HF.out
              exact hK (({ gh with A61 := A8, c61 := c8 } : AGh), (upd (upd (upd s 57 (.slice gh.A57 x.n gh.c57)) 60 (.slice (some ⟨gh.b60, 0, none⟩) 1 1)) 61 (.slice A8 (x.n + 1) c8))) _ ⟨(grown_belowB gW hbV), (gN.below hbV HBYV.out.lt), gC, gCt, (fun h => absurd (h15.symm.trans h) (by decide)), (fun _ h => by cases h), (fun _ h => by cases h), (fun _ => by simpa using hown), f0, f1, f2, f3, f4, f5, f6, (fun _ => rfl), f8, f9, (fun _ => rfl), (fun _ => rfl), f12, f14⟩
            · rintro L ⟨gh, s⟩ W hu hd hdn ⟨gW, gN, gC, gCt, gSt, gA, gB, gD, f0, f1, f2, f3, f4, f5, f6, f7, f8, f9, f10, f11, f12, f14⟩ K Q hK
              try dsimp only at gW gN gC gCt gSt gA gB gD f0 f1 f2 f3 f4 f5 f6 f7 f8 f9 f10 f11 f12 f14 ⊢
              have HF := Lib.hid (show (V.grownBy W (some (Bx + 1))) ∧ (Blk W (Bx + 1) 111 #[.int .i64 v, .int .i64 gh.co.a, .int .i64 gh.co.b, .int .i64 gh.co.c, .int .i64 gh.co.d, .slice gh.sA gh.sn gh.sc]) ∧ (L 13 = false → gh.co = cx) ∧ (L 13 = true → gh.co = addC cx x.cost) ∧ (L 15 = true → gh.sA = gh.A61 ∧ gh.sn = x.n + 1 ∧ gh.sc = gh.c61) ∧ (L 7 = true → L 11 = false → Own W V.heap.size 3 1 gh.A57 x.n gh.c57 (List.map (Value.int .i64) x.links)) ∧ (L 10 = true → L 11 = false → Blk W gh.b60 3 #[.int .i64 lk.id] ∧ V.heap.size ≤ gh.b60) ∧ (L 11 = true → Own W V.heap.size 3 1 gh.A61 (x.n + 1) gh.c61 (List.map (Value.int .i64) (x.links ++ [lk.id]))) ∧ (L 0 = true → s 50 = .pointer (some ⟨Bx + 1, 1, none⟩)) ∧ (L 1 = true → s 51 = .agg #[.int .i64 cx.a, .int .i64 cx.b, .int .i64 cx.c, .int .i64 cx.d]) ∧ (L 2 = true → s 52 = .pointer (some ⟨w1.heap.size, 1, none⟩)) ∧ (L 3 = true → s 53 = .agg #[.int .i64 x.cost.a, .int .i64 x.cost.b, .int .i64 x.cost.c, .int .i64 x.cost.d]) ∧ (L 4 = true → s 54 = .agg #[.int .i64 (addC cx x.cost).a, .int .i64 (addC cx x.cost).b, .int .i64 (addC cx x.cost).c, .int .i64 (addC cx x.cost).d]) ∧ (L 5 = true → s 55 = .pointer (some ⟨w1.heap.size, 5, none⟩)) ∧ (L 6 = true → s 56 = .slice x.A x.n x.cap) ∧ (L 7 = true → s 57 = .slice gh.A57 x.n gh.c57) ∧ (L 8 = true → s 58 = .pointer (some ⟨Bx, 0, none⟩)) ∧ (L 9 = true → s 59 = .int .i64 lk.id) ∧ (L 10 = true → s 60 = .slice (some ⟨gh.b60, 0, none⟩) 1 1) ∧ (L 11 = true → s 61 = .slice gh.A61 (x.n + 1) gh.c61) ∧ (L 12 = true → s 62 = .pointer (some ⟨Bx + 1, 1, none⟩)) ∧ (L 14 = true → s 63 = .pointer (some ⟨Bx + 1, 5, none⟩)) from ⟨gW, gN, gC, gCt, gSt, gA, gB, gD, f0, f1, f2, f3, f4, f5, f6, f7, f8, f9, f10, f11, f12, f14⟩)
              clear f14 f12 f11 f10 f9 f8 f7 f6 f5 f4 f3 f2 f1 f0 gD gB gA gSt gCt gC gN gW hd
              try simp only
              gi_wp2
              obtain ⟨gW, gN, gC, gCt, gSt, gA, gB, gD, f0, f1, f2, f3, f4, f5, f6, f7, f8, f9, f10, f11, f12, f14⟩ := HF.out
              exact hK (gh, (upd s 62 (.pointer (some ⟨Bx + 1, 1, none⟩)))) _ ⟨gW, gN, gC, gCt, gSt, gA, gB, gD, f0, f1, f2, f3, f4, f5, f6, f7, f8, f9, f10, f11, (fun _ => rfl), f14⟩
            · rintro L ⟨gh, s⟩ W hu hd hdn ⟨gW, gN, gC, gCt, gSt, gA, gB, gD, f0, f1, f2, f3, f4, f5, f6, f7, f8, f9, f10, f11, f12, f14⟩ K Q hK
              try dsimp only at gW gN gC gCt gSt gA gB gD f0 f1 f2 f3 f4 f5 f6 f7 f8 f9 f10 f11 f12 f14 ⊢
              have e12 := f12 (hd.at_ 12 rfl)
              have e4 := f4 (hd.at_ 4 rfl)
              have h11 := hd.at_ 11 rfl
              have q1 := gN.cell 1
              have q2 := gN.cell 2
              have q3 := gN.cell 3
              have q4 := gN.cell 4
              have z1 := gN.frozen 1
              have z2 := gN.frozen 2
              have z3 := gN.frozen 3
              have z4 := gN.frozen 4
              have HF := Lib.hid (show (V.grownBy W (some (Bx + 1))) ∧ (Blk W (Bx + 1) 111 #[.int .i64 v, .int .i64 gh.co.a, .int .i64 gh.co.b, .int .i64 gh.co.c, .int .i64 gh.co.d, .slice gh.sA gh.sn gh.sc]) ∧ (L 13 = false → gh.co = cx) ∧ (L 13 = true → gh.co = addC cx x.cost) ∧ (L 15 = true → gh.sA = gh.A61 ∧ gh.sn = x.n + 1 ∧ gh.sc = gh.c61) ∧ (L 7 = true → L 11 = false → Own W V.heap.size 3 1 gh.A57 x.n gh.c57 (List.map (Value.int .i64) x.links)) ∧ (L 10 = true → L 11 = false → Blk W gh.b60 3 #[.int .i64 lk.id] ∧ V.heap.size ≤ gh.b60) ∧ (L 11 = true → Own W V.heap.size 3 1 gh.A61 (x.n + 1) gh.c61 (List.map (Value.int .i64) (x.links ++ [lk.id]))) ∧ (L 0 = true → s 50 = .pointer (some ⟨Bx + 1, 1, none⟩)) ∧ (L 1 = true → s 51 = .agg #[.int .i64 cx.a, .int .i64 cx.b, .int .i64 cx.c, .int .i64 cx.d]) ∧ (L 2 = true → s 52 = .pointer (some ⟨w1.heap.size, 1, none⟩)) ∧ (L 3 = true → s 53 = .agg #[.int .i64 x.cost.a, .int .i64 x.cost.b, .int .i64 x.cost.c, .int .i64 x.cost.d]) ∧ (L 4 = true → s 54 = .agg #[.int .i64 (addC cx x.cost).a, .int .i64 (addC cx x.cost).b, .int .i64 (addC cx x.cost).c, .int .i64 (addC cx x.cost).d]) ∧ (L 5 = true → s 55 = .pointer (some ⟨w1.heap.size, 5, none⟩)) ∧ (L 6 = true → s 56 = .slice x.A x.n x.cap) ∧ (L 7 = true → s 57 = .slice gh.A57 x.n gh.c57) ∧ (L 8 = true → s 58 = .pointer (some ⟨Bx, 0, none⟩)) ∧ (L 9 = true → s 59 = .int .i64 lk.id) ∧ (L 10 = true → s 60 = .slice (some ⟨gh.b60, 0, none⟩) 1 1) ∧ (L 11 = true → s 61 = .slice gh.A61 (x.n + 1) gh.c61) ∧ (L 12 = true → s 62 = .pointer (some ⟨Bx + 1, 1, none⟩)) ∧ (L 14 = true → s 63 = .pointer (some ⟨Bx + 1, 5, none⟩)) from ⟨gW, gN, gC, gCt, gSt, gA, gB, gD, f0, f1, f2, f3, f4, f5, f6, f7, f8, f9, f10, f11, f12, f14⟩)
              clear f14 f12 f11 f10 f9 f8 f7 f6 f5 f4 f3 f2 f1 f0 gD gB gA gSt gCt gC gN gW hd
              try simp only at e12 e4 ⊢
              gi_wp2
              obtain ⟨gW, gN, gC, gCt, gSt, gA, gB, gD, f0, f1, f2, f3, f4, f5, f6, f7, f8, f9, f10, f11, f12, f14⟩ := HF.out
              have hg4 : W.grownBy _ (some (Bx + 1)) := grown_setCell (grown_setCell (grown_setCell (grown_setCell (grown_refl W (some (Bx + 1))) (p := ⟨Bx + 1, 1, none⟩) (.inl rfl) (.int .i64 (addC cx x.cost).a)) (p := ⟨Bx + 1, 2, none⟩) (.inl rfl) (.int .i64 (addC cx x.cost).b)) (p := ⟨Bx + 1, 3, none⟩) (.inl rfl) (.int .i64 (addC cx x.cost).c)) (p := ⟨Bx + 1, 4, none⟩) (.inl rfl) (.int .i64 (addC cx x.cost).d)
              exact hK (({ gh with co := addC cx x.cost } : AGh), (upd (upd s 62 (.pointer (some ⟨Bx + 1, 1, none⟩))) 54 (.agg #[.int .i64 (addC cx x.cost).a, .int .i64 (addC cx x.cost).b, .int .i64 (addC cx x.cost).c, .int .i64 (addC cx x.cost).d]))) _ ⟨(grown_trans gW hg4), (((((gN.set_ 1 _).set_ 2 _).set_ 3 _).set_ 4 _)), (fun h => by cases h), (fun _ => rfl), gSt, (fun _ h => absurd (h11.symm.trans h) (by decide)), (fun _ h => absurd (h11.symm.trans h) (by decide)), (fun h1 => (gD h1).grown hg4 (fun a ha e => by have h2 := ((gD h1).lt ha).1; have h3 := HBYV.out.lt; have h4 := Option.some.inj e; omega)), f0, f1, f2, f3, (fun _ => rfl), f5, f6, f7, f8, f9, f10, f11, (fun _ => rfl), f14⟩
            · rintro L ⟨gh, s⟩ W hu hd hdn ⟨gW, gN, gC, gCt, gSt, gA, gB, gD, f0, f1, f2, f3, f4, f5, f6, f7, f8, f9, f10, f11, f12, f14⟩ K Q hK
              try dsimp only at gW gN gC gCt gSt gA gB gD f0 f1 f2 f3 f4 f5 f6 f7 f8 f9 f10 f11 f12 f14 ⊢
              have HF := Lib.hid (show (V.grownBy W (some (Bx + 1))) ∧ (Blk W (Bx + 1) 111 #[.int .i64 v, .int .i64 gh.co.a, .int .i64 gh.co.b, .int .i64 gh.co.c, .int .i64 gh.co.d, .slice gh.sA gh.sn gh.sc]) ∧ (L 13 = false → gh.co = cx) ∧ (L 13 = true → gh.co = addC cx x.cost) ∧ (L 15 = true → gh.sA = gh.A61 ∧ gh.sn = x.n + 1 ∧ gh.sc = gh.c61) ∧ (L 7 = true → L 11 = false → Own W V.heap.size 3 1 gh.A57 x.n gh.c57 (List.map (Value.int .i64) x.links)) ∧ (L 10 = true → L 11 = false → Blk W gh.b60 3 #[.int .i64 lk.id] ∧ V.heap.size ≤ gh.b60) ∧ (L 11 = true → Own W V.heap.size 3 1 gh.A61 (x.n + 1) gh.c61 (List.map (Value.int .i64) (x.links ++ [lk.id]))) ∧ (L 0 = true → s 50 = .pointer (some ⟨Bx + 1, 1, none⟩)) ∧ (L 1 = true → s 51 = .agg #[.int .i64 cx.a, .int .i64 cx.b, .int .i64 cx.c, .int .i64 cx.d]) ∧ (L 2 = true → s 52 = .pointer (some ⟨w1.heap.size, 1, none⟩)) ∧ (L 3 = true → s 53 = .agg #[.int .i64 x.cost.a, .int .i64 x.cost.b, .int .i64 x.cost.c, .int .i64 x.cost.d]) ∧ (L 4 = true → s 54 = .agg #[.int .i64 (addC cx x.cost).a, .int .i64 (addC cx x.cost).b, .int .i64 (addC cx x.cost).c, .int .i64 (addC cx x.cost).d]) ∧ (L 5 = true → s 55 = .pointer (some ⟨w1.heap.size, 5, none⟩)) ∧ (L 6 = true → s 56 = .slice x.A x.n x.cap) ∧ (L 7 = true → s 57 = .slice gh.A57 x.n gh.c57) ∧ (L 8 = true → s 58 = .pointer (some ⟨Bx, 0, none⟩)) ∧ (L 9 = true → s 59 = .int .i64 lk.id) ∧ (L 10 = true → s 60 = .slice (some ⟨gh.b60, 0, none⟩) 1 1) ∧ (L 11 = true → s 61 = .slice gh.A61 (x.n + 1) gh.c61) ∧ (L 12 = true → s 62 = .pointer (some ⟨Bx + 1, 1, none⟩)) ∧ (L 14 = true → s 63 = .pointer (some ⟨Bx + 1, 5, none⟩)) from ⟨gW, gN, gC, gCt, gSt, gA, gB, gD, f0, f1, f2, f3, f4, f5, f6, f7, f8, f9, f10, f11, f12, f14⟩)
              clear f14 f12 f11 f10 f9 f8 f7 f6 f5 f4 f3 f2 f1 f0 gD gB gA gSt gCt gC gN gW hd
              try simp only
              gi_wp2
              obtain ⟨gW, gN, gC, gCt, gSt, gA, gB, gD, f0, f1, f2, f3, f4, f5, f6, f7, f8, f9, f10, f11, f12, f14⟩ := HF.out
              exact hK (gh, (upd s 63 (.pointer (some ⟨Bx + 1, 5, none⟩)))) _ ⟨gW, gN, gC, gCt, gSt, gA, gB, gD, f0, f1, f2, f3, f4, f5, f6, f7, f8, f9, f10, f11, f12, (fun _ => rfl)⟩
            · rintro L ⟨gh, s⟩ W hu hd hdn ⟨gW, gN, gC, gCt, gSt, gA, gB, gD, f0, f1, f2, f3, f4, f5, f6, f7, f8, f9, f10, f11, f12, f14⟩ K Q hK
              try dsimp only at gW gN gC gCt gSt gA gB gD f0 f1 f2 f3 f4 f5 f6 f7 f8 f9 f10 f11 f12 f14 ⊢
              have e14 := f14 (hd.at_ 14 rfl)
              have e11 := f11 (hd.at_ 11 rfl)
              have h11 := hd.at_ 11 rfl
              have q5 := gN.cell 5
              have z5 := gN.frozen 5
              have HF := Lib.hid (show (V.grownBy W (some (Bx + 1))) ∧ (Blk W (Bx + 1) 111 #[.int .i64 v, .int .i64 gh.co.a, .int .i64 gh.co.b, .int .i64 gh.co.c, .int .i64 gh.co.d, .slice gh.sA gh.sn gh.sc]) ∧ (L 13 = false → gh.co = cx) ∧ (L 13 = true → gh.co = addC cx x.cost) ∧ (L 15 = true → gh.sA = gh.A61 ∧ gh.sn = x.n + 1 ∧ gh.sc = gh.c61) ∧ (L 7 = true → L 11 = false → Own W V.heap.size 3 1 gh.A57 x.n gh.c57 (List.map (Value.int .i64) x.links)) ∧ (L 10 = true → L 11 = false → Blk W gh.b60 3 #[.int .i64 lk.id] ∧ V.heap.size ≤ gh.b60) ∧ (L 11 = true → Own W V.heap.size 3 1 gh.A61 (x.n + 1) gh.c61 (List.map (Value.int .i64) (x.links ++ [lk.id]))) ∧ (L 0 = true → s 50 = .pointer (some ⟨Bx + 1, 1, none⟩)) ∧ (L 1 = true → s 51 = .agg #[.int .i64 cx.a, .int .i64 cx.b, .int .i64 cx.c, .int .i64 cx.d]) ∧ (L 2 = true → s 52 = .pointer (some ⟨w1.heap.size, 1, none⟩)) ∧ (L 3 = true → s 53 = .agg #[.int .i64 x.cost.a, .int .i64 x.cost.b, .int .i64 x.cost.c, .int .i64 x.cost.d]) ∧ (L 4 = true → s 54 = .agg #[.int .i64 (addC cx x.cost).a, .int .i64 (addC cx x.cost).b, .int .i64 (addC cx x.cost).c, .int .i64 (addC cx x.cost).d]) ∧ (L 5 = true → s 55 = .pointer (some ⟨w1.heap.size, 5, none⟩)) ∧ (L 6 = true → s 56 = .slice x.A x.n x.cap) ∧ (L 7 = true → s 57 = .slice gh.A57 x.n gh.c57) ∧ (L 8 = true → s 58 = .pointer (some ⟨Bx, 0, none⟩)) ∧ (L 9 = true → s 59 = .int .i64 lk.id) ∧ (L 10 = true → s 60 = .slice (some ⟨gh.b60, 0, none⟩) 1 1) ∧ (L 11 = true → s 61 = .slice gh.A61 (x.n + 1) gh.c61) ∧ (L 12 = true → s 62 = .pointer (some ⟨Bx + 1, 1, none⟩)) ∧ (L 14 = true → s 63 = .pointer (some ⟨Bx + 1, 5, none⟩)) from ⟨gW, gN, gC, gCt, gSt, gA, gB, gD, f0, f1, f2, f3, f4, f5, f6, f7, f8, f9, f10, f11, f12, f14⟩)
              clear f14 f12 f11 f10 f9 f8 f7 f6 f5 f4 f3 f2 f1 f0 gD gB gA gSt gCt gC gN gW hd
              try simp only at e14 e11 ⊢
              gi_wp2
              obtain ⟨gW, gN, gC, gCt, gSt, gA, gB, gD, f0, f1, f2, f3, f4, f5, f6, f7, f8, f9, f10, f11, f12, f14⟩ := HF.out
              have hg4 : W.grownBy _ (some (Bx + 1)) := grown_setCell (grown_refl W (some (Bx + 1))) (p := ⟨Bx + 1, 5, none⟩) (.inl rfl) (.slice gh.A61 (x.n + 1) gh.c61)
              exact hK (({ gh with sA := gh.A61, sn := x.n + 1, sc := gh.c61 } : AGh), (upd (upd s 63 (.pointer (some ⟨Bx + 1, 5, none⟩))) 61 (.slice gh.A61 (x.n + 1) gh.c61))) _ ⟨(grown_trans gW hg4), ((gN.set_ 5 _)), gC, gCt, (fun _ => ⟨rfl, rfl, rfl⟩), (fun _ h => absurd (h11.symm.trans h) (by decide)), (fun _ h => absurd (h11.symm.trans h) (by decide)), (fun h1 => (gD h1).grown hg4 (fun a ha e => by have h2 := ((gD h1).lt ha).1; have h3 := HBYV.out.lt; have h4 := Option.some.inj e; omega)), f0, f1, f2, f3, f4, f5, f6, f7, f8, f9, f10, (fun _ => rfl), f12, (fun _ => rfl)⟩
          · rintro L ⟨gh, s⟩ W hall ⟨gW, gN, gC, gCt, gSt, gA, gB, gD, f0, f1, f2, f3, f4, f5, f6, f7, f8, f9, f10, f11, f12, f14⟩
            have hco := gCt (hall 13 (by decide))
            have hsl := gSt (hall 15 (by decide))
            have hD := gD (hall 11 (by decide))
            have hN := gN
            rw [hco, hsl.1, hsl.2.1, hsl.2.2] at hN
            clear hco hsl gC gCt gSt gA gB gD gN hall f0 f1 f2 f3 f4 f5 f6 f7 f8 f9 f10 f11 f12 f14
            have HNN := Lib.hid hN
            have HDD := Lib.hid hD
            have HGW := Lib.hid gW
            clear hN hD gW
            obtain ⟨A9, hA9⟩ : ∃ a, gh.A61 = a := ⟨_, rfl⟩
            obtain ⟨c9, hc9⟩ : ∃ a, gh.c61 = a := ⟨_, rfl⟩
            rw [hA9, hc9] at HNN HDD
            clear hA9 hc9
            simp only
            have HKW := Lib.hid (HKV.out.trans (KF.box HGW.out HBYV.out (by omega) (by omega) (by omega) : KF w6.heap.size w.heap.size w4.heap.size (w4.heap.size + 1) V W))
            have HIW := Lib.hid (HIV.out.box HGW.out HBYV.out (by omega) (by omega) (by omega))
            have HNW : Hid (WkOk W (v, ⟨v, addC cx x.cost, x.links ++ [lk.id], A9, x.n + 1, c9⟩)) := Lib.hid (WkOk.new HDD.out HXO.out.len HX8.out HOV.out)
            have o1 := HIW.out.st.bo.cell 0
            have ol := HIW.out.st.bo.lt
            have k0 := HNN.out.cell 0
            have nl := HNN.out.lt
            have hL2 := HIW.out.st.mapO.lookup wkTy HOV.out true
            cases hlk2 : look mo1 v with
            | none =>
              rw [hlk2] at hL2
              simp only [if_true] at hL2
              have hfo : fnOf mo1 v = none := by unfold fnOf; rw [hlk2]; rfl
              have HFO2 := Lib.hid hfo
              clear hlk2 hfo
              have hb1 : Below W.heap.size W (W.alloc (.cells #[.int .i64 0, .int .i64 0, .int .i64 0, .int .i64 0, .int .i64 0, .slice none 0 0] 111)) := (Below.refl _ _).alloc (Nat.le_refl _) _
              have HI2 := Lib.hid (HIW.out.below hb1)
              have HN2 := Lib.hid (HNN.out.below hb1 HNN.out.lt)
              have HK2 := Lib.hid (HKW.out.trans (KF.below hb1 (by have := HIW.out.sz; omega) (by have := HIW.out.sz; omega) (by have := HIW.out.sz; omega)))
              have HNW2 := Lib.hid (HNW.out.below hb1)
              clear hb1
              obtain ⟨w9, hup2, hm9, hg9, hs9⟩ := HI2.out.st.mapO.update (P := Tryd.prog) wkTy HOV.out (⟨v, addC cx x.cost, x.links ++ [lk.id], A9, x.n + 1, c9⟩ : Wk)
              have HI9 := Lib.hid (HI2.out.setO hg9 hm9 (fun q hq => by
                rcases mem_put hq with rfl | hq
                · exact HNW2.out
                · exact HI2.out.st.oko q hq.1))
              have HK9 := Lib.hid (HK2.out.trans (KF.map hg9 (by omega) (by omega) (by have := HI2.out.sz; omega) (by have := HI2.out.sz; omega) (by have := HI2.out.sz; omega) (by omega) (by omega)))
              clear hm9 hg9 hs9
              have p0 := HN2.out.cell 0
              have p1 := HN2.out.cell 1
              have p2 := HN2.out.cell 2
              have p3 := HN2.out.cell 3
              have p4 := HN2.out.cell 4
              have p5 := HN2.out.cell 5
              have b2 := HI2.out.st.bo.cell 0
              gi_wp2
              refine ⟨trivial, ?_⟩
              gi_wp2
              refine ⟨HK9.out.1, HK9.out.2, _, HI9.out, ?_, ?_⟩
              · rw [List.map_append, fnOf_put mo1 v, addC_comm cx x.cost]
                exact HDR.out.take HYM.out HFN.out (fun c' l' h => by rw [HFO2.out] at h; cases h)
              · intro q hq
                rcases mem_put hq with hq | hq
                · cases hq; exact HVP.out
                · exact HKO.out _ hq.1
            | some z =>
              rw [hlk2] at hL2
              simp only [if_true] at hL2
              have hzm := look_mem hlk2
              have hfo : fnOf mo1 v = some (z.cost, z.links) := by unfold fnOf; rw [hlk2]; rfl
              have HFO2 := Lib.hid hfo
              have HZM := Lib.hid hzm
              clear hlk2 hfo hzm
              have hb1 : Below W.heap.size W (W.alloc (.cells #[.int .i64 z.to, .int .i64 z.cost.a, .int .i64 z.cost.b, .int .i64 z.cost.c, .int .i64 z.cost.d, .slice z.A z.n z.cap] 111)) := (Below.refl _ _).alloc (Nat.le_refl _) _
              have HI2 := Lib.hid (HIW.out.below hb1)
              have HN2 := Lib.hid (HNN.out.below hb1 HNN.out.lt)
              have HK2 := Lib.hid (HKW.out.trans (KF.below hb1 (by have := HIW.out.sz; omega) (by have := HIW.out.sz; omega) (by have := HIW.out.sz; omega)))
              have HNW2 := Lib.hid (HNW.out.below hb1)
              have HZ2 := Lib.hid ((HIW.out.st.oko _ HZM.out).below hb1)
              clear hb1
              obtain ⟨cv, hcv⟩ : ∃ cv, cmpW (addC cx x.cost) (x.links ++ [lk.id]) z.cost z.links = cv := ⟨_, rfl⟩
              have hcall := before_any (⟨v, addC cx x.cost, x.links ++ [lk.id], A9, x.n + 1, c9⟩ : Wk) z _ HNW2.out.at_ HZ2.out.at_ (Nat.le_trans HNW2.out.short (by unfold maxLen; omega)) (Nat.le_trans HZ2.out.short (by unfold maxLen; omega))
              dsimp only at hcall
              rw [hcv] at hcall
              have HC := Lib.hid hcall
              have HCV := Lib.hid hcv
              clear hcall hcv
              have p0 := HN2.out.cell 0
              have p1 := HN2.out.cell 1
              have p2 := HN2.out.cell 2
              have p3 := HN2.out.cell 3
              have p4 := HN2.out.cell 4
              have p5 := HN2.out.cell 5
              gi_wp2
              refine ⟨trivial, (CallsIn.inRound l' (callsIn_wide.2 HC.out)).mono ?_⟩
              rintro e W7 ⟨rfl, hb7⟩
              have HI7 := Lib.hid (HI2.out.below hb7)
              have HN7 := Lib.hid (HN2.out.below hb7 HN2.out.lt)
              have HK7 := Lib.hid (HK2.out.trans (KF.below hb7 (by have := HI2.out.sz; omega) (by have := HI2.out.sz; omega) (by have := HI2.out.sz; omega)))
              have HNW7 := Lib.hid (HNW2.out.below hb7)
              clear hb7 p0 p1 p2 p3 p4 p5 o1 k0 hL2
              by_cases hlt : cv < 0
              · obtain ⟨w9, hup2, hm9, hg9, hs9⟩ := HI7.out.st.mapO.update (P := Tryd.prog) wkTy HOV.out (⟨v, addC cx x.cost, x.links ++ [lk.id], A9, x.n + 1, c9⟩ : Wk)
                have HI9 := Lib.hid (HI7.out.setO hg9 hm9 (fun q hq => by
                  rcases mem_put hq with rfl | hq
                  · exact HNW7.out
                  · exact HI7.out.st.oko q hq.1))
                have HK9 := Lib.hid (HK7.out.trans (KF.map hg9 (by omega) (by omega) (by have := HI7.out.sz; omega) (by have := HI7.out.sz; omega) (by have := HI7.out.sz; omega) (by omega) (by omega)))
                clear hm9 hg9 hs9
                have p0 := HN7.out.cell 0
                have p1 := HN7.out.cell 1
                have p2 := HN7.out.cell 2
                have p3 := HN7.out.cell 3
                have p4 := HN7.out.cell 4
                have p5 := HN7.out.cell 5
                have b2 := HI7.out.st.bo.cell 0
                gi_wp2
                refine ⟨HK9.out.1, HK9.out.2, _, HI9.out, ?_, ?_⟩
                · rw [List.map_append, fnOf_put mo1 v, addC_comm cx x.cost]
                  exact HDR.out.take HYM.out HFN.out (fun c' l' h => by
                    rw [HFO2.out] at h
                    cases h
                    have h1 := HCV.out
                    rw [cmpW_key, addC_comm cx x.cost] at h1
                    dsimp only
                    omega)
                · intro q hq
                  rcases mem_put hq with hq | hq
                  · cases hq; exact HVP.out
                  · exact HKO.out _ hq.1
              · gi_wp2
                refine ⟨HK7.out.1, HK7.out.2, mo1, HI7.out, ?_, fun q hq => HKO.out q hq⟩
                rw [List.map_append]
                refine HDR.out.skip (.inr ⟨z.cost, z.links, HFO2.out, ?_⟩)
                have h1 := HCV.out
                rw [cmpW_key, addC_comm cx x.cost] at h1
                have h2 := cmpL_swap (key (addC x.cost cx) (x.links ++ [lk.id])) (key z.cost z.links)
                dsimp only
                omega
      case done =>
        rintro D ys Wr hD rfl ⟨mo1, hI, hDR, hKO⟩ hK
        gi_wp2
        have hno : fnOf ms x.to = none := HS.out.2.2.1.disj x.to (by rw [fnOf_mem (MapIs.nodup wkTy HS.out.1.mapO) HX.out]; simp)
        have hln : (put ms x.to x).length = ms.length + 1 := by
          unfold put
          rw [if_neg]
          · simp
          · intro h
            obtain ⟨q, hq, he⟩ := List.any_eq_true.1 h
            have hq' : (x.to, q.2) ∈ ms := by have e : q.1 = x.to := by simpa using he
                                              rw [← e]; exact hq
            rw [fnOf_mem (MapIs.nodup wkTy HS.out.1.mapS) hq'] at hno
            cases hno
        have hkS : ∀ q ∈ put ms x.to x, q.1 ∈ t.places := fun q hq => by
          rcases mem_put hq with rfl | hq
          · exact HXP.out
          · exact HS.out.2.2.2.1 q hq.1
        have h9 := keys_le hI.st.mapS hkS HFI.out
        refine ⟨⟨put ms x.to x, mo1, _, _, _, _, _, _, _, _, _, _, _, _, _, _, _, _, _, _, _, _, _, _, Lib.hid ⟨hI.st, hI.marks.more (Nat.le_trans hws hD) hK (fun dd hd r hr => Nat.lt_of_lt_of_le (hdl dd hd r hr) hD) #[], hDR.leave (fun y hy => List.mem_map.2 ⟨⟨y, hy⟩, by unfold allOut; simp, rfl⟩), hkS, hKO⟩, rfl⟩, ?_⟩
        rw [mapSize_eq hI.st.mapS, mapSize_eq HS.out.1.mapS, hln]
        omega
      case stop =>
        rintro D cd pre Wr _ _ h _
        exact h.elim
end Go.Proofs.YtahkjagjcogeiaaDoor
/- The answer's first: the first walk out of the least costs. -/
namespace Go.Proofs.YtahkjagjcogeiaaDoor
open Go.RowKit Go.Shelf
set_option linter.unusedVariables false

theorem EAt.cell {w : World} {B : Nat} {A : Option Addr} {n : Nat} {E : List (Option Cost)} (h : EAt w B A n E) {k : Nat} {r : Option Cost} (hk : E[k]? = some r) : ∃ b off, A = some ⟨b, off, none⟩ ∧ b < B ∧
    w.cell? ⟨b, off + k * 4, none⟩ = some (.int .i64 (entC r).a) ∧ w.cell? ⟨b, off + k * 4 + 1, none⟩ = some (.int .i64 (entC r).b) ∧ w.cell? ⟨b, off + k * 4 + 2, none⟩ = some (.int .i64 (entC r).c) ∧ w.cell? ⟨b, off + k * 4 + 3, none⟩ = some (.int .i64 (entC r).d) := by
  have hk' := (List.getElem?_eq_some_iff.1 hk).1
  obtain ⟨b, off, e, hb, hc⟩ := Reads.plain h (by rw [eVals_len]; omega)
  exact ⟨b, off, e, hb, hc (k * 4) _ (eVals_at (j := 0) hk (by omega)), hc (k * 4 + 1) _ (eVals_at (j := 1) hk (by omega)), hc (k * 4 + 2) _ (eVals_at (j := 2) hk (by omega)), hc (k * 4 + 3) _ (eVals_at (j := 3) hk (by omega))⟩

def RFirstOut (w : World) (r : Option (Cost × List Int)) (e : Ending) (w' : World) : Prop :=
  ∃ (A : Option Addr) (n cap : Nat) (co : Cost), e = .returned (.tuple #[.slice A n cap, costV co, .bool r.isSome]) ∧ (r = none → A = none ∧ n = 0 ∧ cap = 0 ∧ co = zeroC) ∧ (∀ q, r = some q → q.1 = co ∧ IntsAt w' w'.heap.size A n q.2) ∧ (∀ a, A = some a → w.heap.size ≤ a.block ∧ a.block < w'.heap.size) ∧ Below w.heap.size w w'

/-- What lies in memory while first works. -/
structure RFSt (w : World) (T : Array Value) (p : Price) (A : Option Addr) (n : Nat) (E : List (Option Cost)) (B : Nat) (c0 : Cost) (W : World) : Prop where
  bel : Below w.heap.size w W
  tb : Blk W w.heap.size 25 T
  pb : Blk W (w.heap.size + 1) 107 #[.int .i64 p.pace, .int .i64 p.up, .int .i64 p.step]
  rb : Blk W (w.heap.size + 1 + 1) 103 #[.int .i64 0, .int .i64 0, .int .i64 0, .int .i64 0]
  ea : EAt W B A n E
  eb : w.heap.size + 1 + 1 < B
  fb : Blk W B 103 #[.int .i64 c0.a, .int .i64 c0.b, .int .i64 c0.c, .int .i64 c0.d]
theorem RFSt.below {w W W' : World} {T : Array Value} {p : Price} {A : Option Addr} {n B : Nat} {E : List (Option Cost)} {c0 : Cost} (h : RFSt w T p A n E B c0 W) (hb : Below W.heap.size W W') : RFSt w T p A n E B c0 W' :=
  ⟨h.bel.trans (hb.mono h.bel.size), h.tb.below hb h.tb.lt, h.pb.below hb h.pb.lt, h.rb.below hb h.rb.lt, h.ea.below (hb.mono (Nat.le_of_lt h.fb.lt)), h.eb, h.fb.below hb h.fb.lt⟩

theorem RFSt.low {w W W' : World} {T : Array Value} {p : Price} {A : Option Addr} {n B : Nat} {E : List (Option Cost)} {c0 : Cost} (h : RFSt w T p A n E B c0 W) (hb : Below (B + 1) W W') : RFSt w T p A n E B c0 W' := by
  have h1 := h.eb
  have h2 := h.fb.lt
  exact ⟨h.bel.trans (hb.mono (by omega)), h.tb.below hb (by omega), h.pb.below hb (by omega), h.rb.below hb (by omega), h.ea.below (hb.mono (by omega)), h.eb, h.fb.below hb (by omega)⟩

theorem RFSt.entry {w W : World} {T : Array Value} {p : Price} {be oe n B : Nat} {E : List (Option Cost)} {c0 : Cost} (h : RFSt w T p (some ⟨be, oe, none⟩) n E B c0 W) {k : Nat} {r : Option Cost} (hk : E[k]? = some r) :
    W.cell? ⟨be, oe + k * 4, none⟩ = some (.int .i64 (entC r).a) ∧ W.cell? ⟨be, oe + k * 4 + 1, none⟩ = some (.int .i64 (entC r).b) ∧ W.cell? ⟨be, oe + k * 4 + 2, none⟩ = some (.int .i64 (entC r).c) ∧ W.cell? ⟨be, oe + k * 4 + 3, none⟩ = some (.int .i64 (entC r).d) := by
  obtain ⟨b, off, e, _, h1, h2, h3, h4⟩ := h.ea.cell hk
  cases e
  exact ⟨h1, h2, h3, h4⟩
theorem rplus_cls' {W : World} {n : Nat} (x y s : Cost) (hs : addC x y = s) (hx : Small x) (hy : Small y) {σ : Type} {of : σ → World} (h1 : ∀ z, Below W.heap.size W (of z)) (h2 : ∀ z W', Below (of z).heap.size (of z) W' → Cls of W') (z : σ) :
    CallsIn Fence.wide n Tryd.prog 113 #[.agg #[.int .i64 x.a, .int .i64 x.b, .int .i64 x.c, .int .i64 x.d], .agg #[.int .i64 y.a, .int .i64 y.b, .int .i64 y.c, .int .i64 y.d]] (of z) fun e w'' => e = .returned (.agg #[.int .i64 s.a, .int .i64 s.b, .int .i64 s.c, .int .i64 s.d]) ∧ Cls of w'' := by
  subst hs
  exact rplus_cls x y hx hy h1 h2 z

theorem Cost.ext_list {c d : Cost} (h : c.list = d.list) : c = d := by
  obtain ⟨a, b, e, f⟩ := c
  obtain ⟨a', b', e', f'⟩ := d
  simp only [Cost.list, List.cons.injEq, and_true] at h
  obtain ⟨rfl, rfl, rfl, rfl⟩ := h
  rfl
theorem first_here {t : Town} {dk : Bool} {p : Price} (ht : Fine t) (hp : Fair p) (u : Int) : First t dk p u u (some (zeroC, [])) := by
  refine ⟨.nil u, fun c' l' h => ?_⟩
  have hb := h.bound ht hp
  rw [cmp_key]
  by_cases hl : l' = []
  · subst hl
    cases h
    rw [if_pos (cmpL_refl _), cmpL_refl]
    exact Int.le_refl _
  · have h1 : 0 < l'.length := List.length_pos_iff.2 hl
    have h2 : cmpL zeroC.list c'.list = -1 := by
      rw [cmpC_unf]
      have za : zeroC.a = 0 := rfl
      have zb : zeroC.b = 0 := rfl
      have zc : zeroC.c = 0 := rfl
      by_cases ha : zeroC.a < c'.a
      · rw [if_pos ha]
      · rw [if_neg ha, if_neg (by omega)]
        by_cases hb' : zeroC.b < c'.b
        · rw [if_pos hb']
        · rw [if_neg hb', if_neg (by omega), if_pos (by omega)]
    rw [h2, if_neg (by omega)]
    omega
theorem first_end {t : Town} {dk : Bool} {p : Price} {v to : Int} {E : List (Option Cost)} {ia : Nat} {ca cc k0 : Cost} {acc : List Int} (hC : Costs t dk p to E) (ht : Fine t) (hp : Fair p) (hia : t.places[ia]? = some to) (hcc : E[ia]? = some (some cc)) (hk : addC ca cc = k0)
    (hF : ∀ c' r, First t dk p to to (some (c', r)) → First t dk p v to (some (addC ca c', acc ++ r))) : best t dk p v to = some (k0, acc) := by
  have h0 := first_here (dk := dk) ht hp to
  have h1 := hF _ _ h0
  rw [List.append_nil, addC_zero] at h1
  have h2 := hC.2 ia to hia _ hcc
  obtain ⟨⟨l, hw⟩, hmin⟩ := h2
  have h3 := key_cost (h0.2 _ _ hw)
  have h4 := hmin _ _ (.nil to)
  have h5 : cc = zeroC := Cost.ext_list (cmpL_antisymm h4 h3)
  rw [h5, addC_zero] at hk
  subst hk
  exact ((first_iff ht hp).1 h1).symm
theorem Own.keepB {w w' : World} {base n cap size : Nat} {e : TypeId} {A : Option Addr} {xs : List Value} (o : Own w base e size A n cap xs) (hk : ∀ g : Nat, base ≤ g → g < w.heap.size → w'.heap[g]? = w.heap[g]?) : Own w' base e size A n cap xs := by
  refine ⟨o.1, ?_⟩
  rcases o.2 with h' | ⟨g, cap', cur, hv, hb, hg, hr⟩
  · exact .inl h'
  · exact .inr ⟨g, cap', cur, hv, hb, (hk g hb (Array.getElem?_eq_some_iff.1 hg).1).trans hg, hr⟩

set_option maxRecDepth 100000 in
set_option maxHeartbeats 16000000 in
theorem rfirst_in (A : Option Addr) (n c : Nat) (A' : Option Addr) (m d : Nat) (p : Price) (t : Town) (dk : Bool) (v to : Int) (w : World)
    (hm : m ≤ 20) (ha : IntsAt w w.heap.size A n t.places) (ht : LinksAt w w.heap.size A' m t.links) (hp : Cheap p) (hfine : Fine t) (hfair : Fair p) (hnd : t.places.Nodup) (hv : v ∈ t.places) :
    CallsIn Fence.wide 9 Tryd.prog 57 #[.agg #[.slice A n c, .slice A' m d], .int .i64 v, .int .i64 to, .bool dk, .agg #[.int .i64 p.pace, .int .i64 p.up, .int .i64 p.step]] w (RFirstOut w (best t dk p v to)) := by
  have HT := Lib.hid ht
  have HP := Lib.hid hp
  have HA := Lib.hid ha
  have HFI := Lib.hid hfine
  have HFA := Lib.hid hfair
  have HND := Lib.hid hnd
  have HLm := Lib.hid ht.len
  have HLn := Lib.hid ha.len
  have hn9 : n ≤ 9 := by have := hfine.size; have := ha.len; omega
  obtain ⟨i0, hpi, hi0, hi0l⟩ := placeI_at hv
  have HPI := Lib.hid hpi
  have HI0 := Lib.hid hi0
  have hi0n : i0 < n := by have := HLn.out; omega
  clear ha ht hp hfine hfair hnd hpi hi0 hv
  refine callsIn_of_wp Tryd.func57 rfl trivial ?_ rfl
  simp only [Tryd.ntmps57, List.size_toArray, List.length_cons, List.length_nil, Nat.reduceAdd, Nat.reduceSub, Array.replicate_succ, Array.replicate_zero, List.push_toArray, List.append_toArray, List.nil_append, List.cons_append]
  gi_wp2
  have B0 : Below w.heap.size w (((w.alloc (.cells #[.slice A n c, .slice A' m d] 25)).alloc (.cells #[.int .i64 p.pace, .int .i64 p.up, .int .i64 p.step] 107)).alloc (.cells #[.int .i64 0, .int .i64 0, .int .i64 0, .int .i64 0] 103)) :=
    (((Below.refl w.heap.size w).alloc (Nat.le_refl _) (.cells #[.slice A n c, .slice A' m d] 25)).alloc (by simp) (.cells #[.int .i64 p.pace, .int .i64 p.up, .int .i64 p.step] 107)).alloc (by simp; omega) (.cells #[.int .i64 0, .int .i64 0, .int .i64 0, .int .i64 0] 103)
  have T0 := ((Blk.new w 25 #[.slice A n c, .slice A' m d]).alloc (.cells #[.int .i64 p.pace, .int .i64 p.up, .int .i64 p.step] 107)).alloc (.cells #[.int .i64 0, .int .i64 0, .int .i64 0, .int .i64 0] 103)
  have P0 := (Blk.new (w.alloc (.cells #[.slice A n c, .slice A' m d] 25)) 107 #[.int .i64 p.pace, .int .i64 p.up, .int .i64 p.step]).alloc (.cells #[.int .i64 0, .int .i64 0, .int .i64 0, .int .i64 0] 103)
  have R0 := Blk.new ((w.alloc (.cells #[.slice A n c, .slice A' m d] 25)).alloc (.cells #[.int .i64 p.pace, .int .i64 p.up, .int .i64 p.step] 107)) 103 #[.int .i64 0, .int .i64 0, .int .i64 0, .int .i64 0]
  rw [World.size_alloc] at P0
  rw [World.size_alloc, World.size_alloc] at R0
  have HB0 := Lib.hid B0
  have HT0 := Lib.hid T0
  have HP0 := Lib.hid P0
  have HR0 := Lib.hid R0
  clear B0 T0 P0 R0
  generalize (((w.alloc (.cells #[.slice A n c, .slice A' m d] 25)).alloc (.cells #[.int .i64 p.pace, .int .i64 p.up, .int .i64 p.step] 107)).alloc (.cells #[.int .i64 0, .int .i64 0, .int .i64 0, .int .i64 0] 103)) = w0 at *
  refine ⟨trivial, (callsIn_wide.2 (rcosts_any A n c A' m d p t dk to w0 hm ((HA.out.below HB0.out).more HB0.out.size) ((HT.out.below HB0.out).more HB0.out.size) HP.out HFI.out HFA.out HND.out)).mono ?_⟩
  rintro e w1 ⟨AE, E, rfl, hea, hC, hL, hb1⟩
  have HEA := Lib.hid hea
  have HC := Lib.hid hC
  have HL := Lib.hid hL
  have HB1 := Lib.hid hb1
  have HT1 := Lib.hid (HT0.out.below hb1 HT0.out.lt)
  have HP1 := Lib.hid (HP0.out.below hb1 HP0.out.lt)
  have HR1 := Lib.hid (HR0.out.below hb1 HR0.out.lt)
  have BB1 := Lib.hid (HB0.out.trans (hb1.mono HB0.out.size))
  clear hea hC hL hb1 HT0 HP0 HR0
  have t0 := HT1.out.cell 0
  have t1 := HT1.out.cell 1
  gi_wp2
  refine ⟨trivial, (callsIn_wide.2 (place_any A n c A' m d t v w1 (by unfold maxLen; omega) ((HA.out.below BB1.out).more BB1.out.size))).mono ?_⟩
  rintro e w2 ⟨rfl, hb2⟩
  rw [HPI.out]
  have HEA2 : Hid (EAt w2 w1.heap.size AE n E) := Lib.hid (Reads.below HEA.out hb2)
  have HT2 := Lib.hid (HT1.out.below hb2 HT1.out.lt)
  have HP2 := Lib.hid (HP1.out.below hb2 HP1.out.lt)
  have HR2 := Lib.hid (HR1.out.below hb2 HR1.out.lt)
  have BB2 := Lib.hid (BB1.out.trans (hb2.mono BB1.out.size))
  have hsz2 := hb2.size
  clear hb2 t0 t1 HT1 HP1 HR1
  obtain ⟨r, hr⟩ : ∃ r, E[i0]? = some r := ⟨_, List.getElem?_eq_getElem (by rw [HC.out.1]; exact hi0l)⟩
  have HR := Lib.hid hr
  clear hr
  obtain ⟨be, oe, rfl, hbe, c0, c1, c2, c3⟩ := HEA2.out.cell HR.out
  have hbel : be < w2.heap.size := Nat.lt_of_lt_of_le hbe hsz2
  have f0 := HR2.out.cell 0
  have f1 := HR2.out.cell 1
  have f2 := HR2.out.cell 2
  have f3 := HR2.out.cell 3
  have z0 := HR2.out.frozen 0
  have z1 := HR2.out.frozen 1
  have z2 := HR2.out.frozen 2
  have z3 := HR2.out.frozen 3
  have hrl : w.heap.size + 1 + 1 < w2.heap.size := HR2.out.lt
  cases r with
  | none =>
    have hge : decide ((1000000000 : Int) ≤ (entC none).a) = true := by simp [entC, infC]
    gi_wp2
    have R4 := ret4 HR2.out BB2.out (by omega) (.int .i64 0) (.int .i64 0) (.int .i64 0) (.int .i64 0)
    have R5 := R4.1.alloc (.cells #[.int .i64 (entC none).a, .int .i64 (entC none).b, .int .i64 (entC none).c, .int .i64 (entC none).d] 103)
    have y0 := R5.cell 0
    have y1 := R5.cell 1
    have y2 := R5.cell 2
    have y3 := R5.cell 3
    refine bodyPost_ret (v := .tuple #[.slice none 0 0, costV zeroC, .bool false]) (by simp [results, Tryd.results57, go_sem, y0, y1, y2, y3, zeroC]) rfl ?_
    have hno : best t dk p v to = none := by
      have h := HC.out.2 i0 v HI0.out none HR.out
      exact ((first_iff HFI.out HFA.out (r := none)).1 h).symm
    rw [hno]
    exact ⟨none, 0, 0, zeroC, rfl, fun _ => ⟨rfl, rfl, rfl, rfl⟩, (fun q hq => by cases hq), (fun a ha => by cases ha), R4.2.alloc R4.2.size _⟩
  | some k0 =>
    have hge : decide ((1000000000 : Int) ≤ (entC (some k0)).a) = false := by
      have := (HL.out i0 k0 HR.out).a
      exact decide_eq_false (show ¬ (1000000000 : Int) ≤ k0.a by omega)
    gi_wp2
    have hbW : Below w2.heap.size w2 (w2.alloc (.cells #[.int .i64 (entC (some k0)).a, .int .i64 (entC (some k0)).b, .int .i64 (entC (some k0)).c, .int .i64 (entC (some k0)).d] 103)) := (Below.refl _ _).alloc (Nat.le_refl _) _
    have HS3 : Hid (RFSt w #[.slice A n c, .slice A' m d] p (some ⟨be, oe, none⟩) n E w2.heap.size k0 (w2.alloc (.cells #[.int .i64 (entC (some k0)).a, .int .i64 (entC (some k0)).b, .int .i64 (entC (some k0)).c, .int .i64 (entC (some k0)).d] 103))) := Lib.hid
      ⟨BB2.out.trans (hbW.mono BB2.out.size), HT2.out.below hbW HT2.out.lt, HP2.out.below hbW HP2.out.lt, HR2.out.below hbW HR2.out.lt, (HEA2.out.more hsz2).below hbW, hrl, Blk.new _ _ _⟩
    generalize (w2.alloc (.cells #[.int .i64 (entC (some k0)).a, .int .i64 (entC (some k0)).b, .int .i64 (entC (some k0)).c, .int .i64 (entC (some k0)).d] 103)) = w3 at *
    clear hbW c0 c1 c2 c3 f0 f1 f2 f3 z0 z1 z2 z3
    gi_loopg [1, 15] k0.c.toNat (fun g v1 v15 wr => ∃ (at_ : Int) (ia : Nat) (ca cc : Cost) (acc : List Int) (AO : Option Addr) (capO : Nat), v1 = .int .i64 at_ ∧ v15 = .slice AO acc.length capO ∧ g = cc.c.toNat ∧ Hid (RFSt w #[.slice A n c, .slice A' m d] p (some ⟨be, oe, none⟩) n E w2.heap.size k0 wr ∧ t.places[ia]? = some at_ ∧ E[ia]? = some (some cc) ∧ Walk t dk p v at_ ca acc ∧ addC ca cc = k0 ∧ (∀ c' r, First t dk p at_ to (some (c', r)) → First t dk p v to (some (addC ca c', acc ++ r))) ∧ Own wr (w2.heap.size + 1) 3 1 AO acc.length capO (acc.map (Value.int .i64))))
    case atStart =>
      exact ⟨v, i0, zeroC, k0, [], none, 0, rfl, rfl, rfl, Lib.hid ⟨HS3.out, HI0.out, HR.out, .nil _, zero_addC k0, fun c' r h => by rw [zero_addC]; exact h, Own.none_ _ _ _ _⟩⟩
    case round =>
      obtain ⟨at_, ia, ca, cc, acc, AO, capO, rfl, rfl, hg, HS⟩ := hrel
      clear HS3
      by_cases hne : at_ = to
      · have HNE := Lib.hid hne
        subst hne
        have s0 := HS.out.1.rb.cell 0
        have s1 := HS.out.1.rb.cell 1
        have s2 := HS.out.1.rb.cell 2
        have s3 := HS.out.1.rb.cell 3
        have z0 := HS.out.1.rb.frozen 0
        have z1 := HS.out.1.rb.frozen 1
        have z2 := HS.out.1.rb.frozen 2
        have z3 := HS.out.1.rb.frozen 3
        have f0 := HS.out.1.fb.cell 0
        have f1 := HS.out.1.fb.cell 1
        have f2 := HS.out.1.fb.cell 2
        have f3 := HS.out.1.fb.cell 3
        have HEND := Lib.hid (first_end HC.out HFI.out HFA.out HS.out.2.1 HS.out.2.2.1 HS.out.2.2.2.2.1 HS.out.2.2.2.2.2.1)
        gi_wp2
        gi_region
        all_goals
          gi_wp2
          have R4 := ret4 (w := w) HS.out.1.rb (HS.out.1.bel) (by omega) (.int .i64 k0.a) (.int .i64 k0.b) (.int .i64 k0.c) (.int .i64 k0.d)
          have L4 := (ret4 (w := wr) (B := w.heap.size + 1 + 1) HS.out.1.rb (Below.refl _ _) (Nat.le_refl _) (.int .i64 k0.a) (.int .i64 k0.b) (.int .i64 k0.c) (.int .i64 k0.d))
          have y0 := R4.1.cell 0
          have y1 := R4.1.cell 1
          have y2 := R4.1.cell 2
          have y3 := R4.1.cell 3
          refine bodyPost_ret (v := .tuple #[.slice AO acc.length capO, costV k0, .bool true]) (by simp [results, Tryd.results57, go_sem, y0, y1, y2, y3]) rfl ?_
          rw [HEND.out]
          have hown := HS.out.2.2.2.2.2.2.keepB (w' := ((((wr.setCell ⟨w.heap.size + 1 + 1, 0, none⟩ (.int .i64 k0.a)).setCell ⟨w.heap.size + 1 + 1, 1, none⟩ (.int .i64 k0.b)).setCell ⟨w.heap.size + 1 + 1, 2, none⟩ (.int .i64 k0.c)).setCell ⟨w.heap.size + 1 + 1, 3, none⟩ (.int .i64 k0.d))) (fun g hg _ => by
            have hne : g ≠ w.heap.size + 1 + 1 := by omega
            exact (Below.heap_setCell _ ⟨w.heap.size + 1 + 1, 3, none⟩ _ g hne).trans ((Below.heap_setCell _ ⟨w.heap.size + 1 + 1, 2, none⟩ _ g hne).trans ((Below.heap_setCell _ ⟨w.heap.size + 1 + 1, 1, none⟩ _ g hne).trans (Below.heap_setCell _ ⟨w.heap.size + 1 + 1, 0, none⟩ _ g hne))))
          exact ⟨AO, acc.length, capO, k0, rfl, (fun h => by cases h), (fun q hq => by cases hq; exact ⟨rfl, hown.reads (Nat.le_refl _)⟩), (fun a ha => ⟨by have := (hown.lt ha).1; omega, (hown.lt ha).2⟩), below_drewN R4.2 1⟩
      · have HNE := Lib.hid hne
        have t0 := HS.out.1.tb.cell 0
        have t1 := HS.out.1.tb.cell 1
        have hnb : (at_ != to) = true := by simpa using HNE.out
        gi_wp2
        gi_loopw [1, 15, 42] (fun v1 v15 vj wr => ∃ j : Nat, v1 = .int .i64 at_ ∧ v15 = .slice AO acc.length capO ∧ vj = .int .i64 j ∧ j ≤ m ∧ Hid (RFSt w #[.slice A n c, .slice A' m d] p (some ⟨be, oe, none⟩) n E w2.heap.size k0 wr ∧ Own wr (w2.heap.size + 1) 3 1 AO acc.length capO (acc.map (Value.int .i64)) ∧
          ∀ y ∈ t.links.take j, ∀ n' cy (i' : Nat) d', leads dk p y at_ = some (n', cy) → t.places[i']? = some n' → E[i']? = some (some d') → addC cy d' ≠ cc)) (fun _ _ vj _ => m - (intOf vj).toNat)
        case atStart => exact ⟨0, rfl, rfl, rfl, Nat.zero_le _, Lib.hid ⟨HS.out.1, HS.out.2.2.2.2.2.2, fun y hy => by simp at hy⟩⟩
        case round =>
          obtain ⟨j, rfl, rfl, rfl, hjm, HU⟩ := hrel
          have HREL := Lib.hid HS.out.2
          clear HS
          by_cases hjl : j < m
          · obtain ⟨b, off, x, rfl, hb, hx, l0, l1, l2, l3, l4⟩ := (HT.out.below HU.out.1.bel).cell hjl
            have hbl : b < wr.heap.size := Nat.lt_of_lt_of_le hb HU.out.1.bel.size
            have HX := Lib.hid hx
            clear hx hb t0 t1
            have p0 := HU.out.1.pb.cell 0
            have p1 := HU.out.1.pb.cell 1
            have p2 := HU.out.1.pb.cell 2
            have hpl := HU.out.1.pb.lt
            have htl := HU.out.1.tb.lt
            gi_wp2
            have HS4 : Hid (RFSt w #[.slice A n c, .slice (some ⟨b, off, none⟩) m d] p (some ⟨be, oe, none⟩) n E w2.heap.size k0 (wr.alloc (.cells #[.int .i64 x.id, .int .i64 x.fr, .int .i64 x.to, .int .i64 x.steps, .int .i64 x.paces] 45)) ∧ Own (wr.alloc (.cells #[.int .i64 x.id, .int .i64 x.fr, .int .i64 x.to, .int .i64 x.steps, .int .i64 x.paces] 45)) (w2.heap.size + 1) 3 1 AO acc.length capO (acc.map (Value.int .i64))) := Lib.hid ⟨HU.out.1.below ((Below.refl _ _).alloc (Nat.le_refl _) _), HU.out.2.1.alloc _⟩
            have HLB4 : Hid (Blk (wr.alloc (.cells #[.int .i64 x.id, .int .i64 x.fr, .int .i64 x.to, .int .i64 x.steps, .int .i64 x.paces] 45)) wr.heap.size 45 #[.int .i64 x.id, .int .i64 x.fr, .int .i64 x.to, .int .i64 x.steps, .int .i64 x.paces]) := Lib.hid (Blk.new _ _ _)
            have HNO := Lib.hid HU.out.2.2
            have HLO : Hid (w2.heap.size + 1 ≤ wr.heap.size) := Lib.hid (HU.out.1.fb.lt)
            have HXM : Hid (x ∈ t.links) := Lib.hid (List.mem_of_getElem? HX.out)
            have HFit : Hid (Fit x) := Lib.hid ⟨HFI.out.steps x HXM.out, HFI.out.paces x HXM.out⟩
            clear HU p0 p1 p2 l0 l1 l2 l3 l4 hbl hpl htl
            generalize (wr.alloc (.cells #[.int .i64 x.id, .int .i64 x.fr, .int .i64 x.to, .int .i64 x.steps, .int .i64 x.paces] 45)) = w4 at *
            have e1 : ((j + 1 : Nat) : Int) = (j : Int) + 1 := by omega
            refine ⟨trivial, (callsIn_wide.2 (leads_any x at_ dk p w4 HFit.out HP.out)).mono ?_⟩
            rcases hld : leads dk p x at_ with _ | ⟨v', cx⟩
            · rintro e w5 ⟨he, hb5⟩
              obtain rfl : e = .returned (.tuple #[.int .i64 0, .agg #[.int .i64 0, .int .i64 0, .int .i64 0, .int .i64 0], .bool false]) := he
              have HLD := Lib.hid hld
              have HS5 := Lib.hid (show _ ∧ _ from ⟨HS4.out.1.below hb5, HS4.out.2.below hb5 (Nat.le_refl _)⟩)
              clear hld hb5
              gi_wp2
              have HS6 := Lib.hid (show _ ∧ _ from ⟨HS5.out.1.below ((Below.refl _ _).alloc (Nat.le_refl _) (.cells #[.int .i64 0, .int .i64 0, .int .i64 0, .int .i64 0] 103)), HS5.out.2.alloc (.cells #[.int .i64 0, .int .i64 0, .int .i64 0, .int .i64 0] 103)⟩)
              generalize (w5.alloc (.cells #[.int .i64 0, .int .i64 0, .int .i64 0, .int .i64 0] 103)) = w6 at *
              refine wpIn_region_old (AF := ?AF1) [0, 1, 2, 3, 4, 5, 6, 7, 8, 9, 10, 11, 12, 13, 14, 15, 16, 17] [] [true, true, true, true, true, true, true, true, true, true, true, true, true, true, true, true, true, true] [false, false, false, false, false, false, false, false, false, false, false, false, false, false, false, false, false, false] (by kernel_rfl) (by kernel_rfl) (by kernel_rfl) (by kernel_rfl) (by kernel_rfl) (below_drewN (Below.refl _ _) 1) ?hq1 ?ht1
              case hq1 =>
                rintro σ hσ of hof hcl
                have HOF := Lib.hid hof
                have HCL := Lib.hid hcl
                clear hof hcl
                have hfw : ∀ f, Fence.wide.fn f := fun _ => trivial
                simp only [pickB]
                repeat (gi_big_quiet_step (fail))
                refine wpQuietIn_nil ?_
                exact rfl
              case ht1 =>
                intro W hb
                have HS7 := Lib.hid (show _ ∧ _ from ⟨HS6.out.1.below hb, HS6.out.2.below hb (Nat.le_refl _)⟩)
                clear hb
                simp only [pickB]
                refine wpE_nil ?_
                gi_wp2
                refine ⟨⟨j + 1, rfl, rfl, by rw [e1], by omega, Lib.hid ⟨HS7.out.1, HS7.out.2, fun y hy n' cy i' d' g1 g2 g3 => ?_⟩⟩, by simp [intOf]; omega⟩
                rw [List.take_add_one, HX.out] at hy
                rcases List.mem_append.1 hy with hy | hy
                · exact HNO.out y hy n' cy i' d' g1 g2 g3
                · obtain rfl : y = x := by simpa using hy
                  rw [HLD.out] at g1
                  cases g1
            · rintro e w5 ⟨he, hb5⟩
              obtain rfl : e = .returned (.tuple #[.int .i64 v', .agg #[.int .i64 cx.a, .int .i64 cx.b, .int .i64 cx.c, .int .i64 cx.d], .bool true]) := he
              have HLD := Lib.hid hld
              have HS5 := Lib.hid (show _ ∧ _ from ⟨HS4.out.1.below hb5, HS4.out.2.below hb5 (Nat.le_refl _)⟩)
              have HLB5 := Lib.hid (HLB4.out.below hb5 HLB4.out.lt)
              clear hld hb5
              obtain ⟨i2, hpi, hi2, hi2l⟩ := placeI_at (leads_ends HXM.out HFI.out HLD.out).2
              have HPI2 := Lib.hid hpi
              have HI2 := Lib.hid hi2
              have hi2n : i2 < n := by have := HLn.out; omega
              obtain ⟨r, hr⟩ : ∃ r, E[i2]? = some r := ⟨_, List.getElem?_eq_getElem (by rw [HC.out.1]; exact hi2l)⟩
              have HR2 := Lib.hid hr
              have HCX := Lib.hid (leads_cost HXM.out HFI.out HFA.out HLD.out)
              have HSM : Hid (Small cx ∧ Small (entC r)) := Lib.hid ⟨by
                have h1 := HCX.out
                exact ⟨by omega, by omega, by omega, by omega⟩, Small.ent fun d hd => HL.out i2 d (by rw [HR2.out, hd])⟩
              have HUQ : Hid (∀ (i' : Nat), t.places[i']? = some v' → i' = i2) := Lib.hid (fun i' h => by
                have hl := (List.getElem?_eq_some_iff.1 h).1
                exact (List.getElem?_inj hl HND.out).1 (h.trans HI2.out.symm))
              have HPIA : Hid (placeI t.places at_ = ia ∧ ia < n) := Lib.hid (by
                obtain ⟨i', h1, h2, h3⟩ := placeI_at (List.mem_of_getElem? HREL.out.1)
                have h4 : i' = ia := (List.getElem?_inj h3 HND.out).1 (h2.trans HREL.out.1.symm)
                rw [← h4]
                exact ⟨h1, by have := HLn.out; omega⟩)
              have hian : ia < n := HPIA.out.2
              have hi2I : (0 : Int) ≤ (i2 : Int) ∧ (i2 : Int) < (n : Int) := by omega
              have hiaI : (0 : Int) ≤ (ia : Int) ∧ (ia : Int) < (n : Int) := by omega
              clear hpi hi2 hi2l hr
              gi_wp2
              have HS6 := Lib.hid (show _ ∧ _ from ⟨HS5.out.1.below ((Below.refl _ _).alloc (Nat.le_refl _) (.cells #[.int .i64 cx.a, .int .i64 cx.b, .int .i64 cx.c, .int .i64 cx.d] 103)), HS5.out.2.alloc (.cells #[.int .i64 cx.a, .int .i64 cx.b, .int .i64 cx.c, .int .i64 cx.d] 103)⟩)
              have HLB6 := Lib.hid (HLB5.out.alloc (.cells #[.int .i64 cx.a, .int .i64 cx.b, .int .i64 cx.c, .int .i64 cx.d] 103))
              have HCB6 : Hid (Blk (w5.alloc (.cells #[.int .i64 cx.a, .int .i64 cx.b, .int .i64 cx.c, .int .i64 cx.d] 103)) w5.heap.size 103 #[.int .i64 cx.a, .int .i64 cx.b, .int .i64 cx.c, .int .i64 cx.d]) := Lib.hid (Blk.new _ _ _)
              generalize (w5.alloc (.cells #[.int .i64 cx.a, .int .i64 cx.b, .int .i64 cx.c, .int .i64 cx.d] 103)) = w6 at *
              have hcb6 : w5.heap.size < w6.heap.size := HCB6.out.lt
              have hbe6 : be < w6.heap.size := by have := HS6.out.1.fb.lt; omega
              have htl6 : w.heap.size < w6.heap.size := HS6.out.1.tb.lt
              obtain ⟨s, hs⟩ : ∃ s, addC cx (entC r) = s := ⟨_, rfl⟩
              have HSS := Lib.hid hs
              clear hs
              by_cases hsc : s = cc
              · have HSC : Hid (decide (s = cc) = true) := Lib.hid (decide_eq_true hsc)
                clear hsc
                refine wpIn_region_old (AF := ?AF2) [0, 1, 2, 3, 4, 5, 6, 7, 8, 9, 10, 11, 12, 13, 14, 15, 16, 17] [] [true, true, true, true, true, true, true, true, true, true, true, true, true, true, true, true, true, true] [false, false, false, false, false, false, false, false, false, false, false, false, false, false, false, false, false, false] (by kernel_rfl) (by kernel_rfl) (by kernel_rfl) (by kernel_rfl) (by kernel_rfl) (below_drewN (Below.refl _ _) 1) ?hq2 ?ht2
                case hq2 =>
                  rintro σ hσ of hof hcl
                  have HOF := Lib.hid hof
                  have HCL := Lib.hid hcl
                  clear hof hcl
                  have q0 : ∀ z, (of z).cell? ⟨w5.heap.size, 0, none⟩ = some (.int .i64 cx.a) := fun z => (HCB6.out.below (HOF.out z) hcb6).cell 0
                  have q1 : ∀ z, (of z).cell? ⟨w5.heap.size, 1, none⟩ = some (.int .i64 cx.b) := fun z => (HCB6.out.below (HOF.out z) hcb6).cell 1
                  have q2 : ∀ z, (of z).cell? ⟨w5.heap.size, 2, none⟩ = some (.int .i64 cx.c) := fun z => (HCB6.out.below (HOF.out z) hcb6).cell 2
                  have q3 : ∀ z, (of z).cell? ⟨w5.heap.size, 3, none⟩ = some (.int .i64 cx.d) := fun z => (HCB6.out.below (HOF.out z) hcb6).cell 3
                  have t0 : ∀ z, (of z).cell? ⟨w.heap.size, 0, none⟩ = some (.slice A n c) := fun z => (HS6.out.1.tb.below (HOF.out z) htl6).cell 0
                  have t1 : ∀ z, (of z).cell? ⟨w.heap.size, 1, none⟩ = some (.slice (some ⟨b, off, none⟩) m d) := fun z => (HS6.out.1.tb.below (HOF.out z) htl6).cell 1
                  have v0 : ∀ z, (of z).cell? ⟨be, oe + i2 * 4, none⟩ = some (.int .i64 (entC r).a) := fun z => ((HS6.out.1.below (HOF.out z)).entry HR2.out).1
                  have v1 : ∀ z, (of z).cell? ⟨be, oe + i2 * 4 + 1, none⟩ = some (.int .i64 (entC r).b) := fun z => ((HS6.out.1.below (HOF.out z)).entry HR2.out).2.1
                  have v2 : ∀ z, (of z).cell? ⟨be, oe + i2 * 4 + 2, none⟩ = some (.int .i64 (entC r).c) := fun z => ((HS6.out.1.below (HOF.out z)).entry HR2.out).2.2.1
                  have v3 : ∀ z, (of z).cell? ⟨be, oe + i2 * 4 + 3, none⟩ = some (.int .i64 (entC r).d) := fun z => ((HS6.out.1.below (HOF.out z)).entry HR2.out).2.2.2
                  have u0 : ∀ z, (of z).cell? ⟨be, oe + ia * 4, none⟩ = some (.int .i64 cc.a) := fun z => ((HS6.out.1.below (HOF.out z)).entry HREL.out.2.1).1
                  have u1 : ∀ z, (of z).cell? ⟨be, oe + ia * 4 + 1, none⟩ = some (.int .i64 cc.b) := fun z => ((HS6.out.1.below (HOF.out z)).entry HREL.out.2.1).2.1
                  have u2 : ∀ z, (of z).cell? ⟨be, oe + ia * 4 + 2, none⟩ = some (.int .i64 cc.c) := fun z => ((HS6.out.1.below (HOF.out z)).entry HREL.out.2.1).2.2.1
                  have u3 : ∀ z, (of z).cell? ⟨be, oe + ia * 4 + 3, none⟩ = some (.int .i64 cc.d) := fun z => ((HS6.out.1.below (HOF.out z)).entry HREL.out.2.1).2.2.2
                  have hfw : ∀ f, Fence.wide.fn f := fun _ => trivial
                  simp only [pickB]
                  iterate 7 (gi_big_quiet_step (exact place_cls A n c (some ⟨b, off, none⟩) m d t v' i2 HPI2.out (by unfold maxLen; omega) w.heap.size HS6.out.1.bel.size (HA.out.below HS6.out.1.bel) HOF.out HCL.out _))
                  iterate 3 (gi_big_quiet_step (exact rplus_cls' cx (entC r) s HSS.out HSM.out.1 HSM.out.2 HOF.out HCL.out _))
                  iterate 6 (gi_big_quiet_step (exact place_cls A n c (some ⟨b, off, none⟩) m d t at_ ia HPIA.out.1 (by unfold maxLen; omega) w.heap.size HS6.out.1.bel.size (HA.out.below HS6.out.1.bel) HOF.out HCL.out _))
                  have hql : ∀ W : World, (binOp .eql 103 (.agg #[.int .i64 s.a, .int .i64 s.b, .int .i64 s.c, .int .i64 s.d]) (.agg #[.int .i64 cc.a, .int .i64 cc.b, .int .i64 cc.c, .int .i64 cc.d])).run Tryd.prog W = .ok (.bool true) W := fun W => (eql_cost s cc W).trans (by rw [HSC.out])
                  gi_big_quiet_step (fail)
                  gi_big_quiet_step (fail)
                  refine wpQuietIn_nil ?_
                  exact rfl
                case ht2 =>
                  intro W hb
                  have HS7 := Lib.hid (show _ ∧ _ from ⟨HS6.out.1.below hb, HS6.out.2.below hb (Nat.le_refl _)⟩)
                  have HLB7 := Lib.hid (HLB6.out.below hb HLB6.out.lt)
                  clear hb
                  simp only [pickB]
                  refine wpE_nil ?_
                  obtain ⟨d1, hd1⟩ : ∃ d1, r = some d1 := by
                    cases hr1 : r with
                    | some d1 => exact ⟨d1, rfl⟩
                    | none =>
                      exfalso
                      have h1 := HCX.out
                      have h2 : s.a = cx.a + 1000000000 := by rw [← HSS.out, hr1]; rfl
                      have h3 := of_decide_eq_true HSC.out
                      have h4 := (HL.out ia cc HREL.out.2.1).a
                      rw [h3] at h2
                      omega
                  have HD1 : Hid (E[i2]? = some (some d1)) := Lib.hid (by rw [HR2.out, hd1])
                  have HADD : Hid (addC cx d1 = cc) := Lib.hid (by
                    have h3 := of_decide_eq_true HSC.out
                    rw [← h3, ← HSS.out, hd1]
                    rfl)
                  have HAL : Hid (acc.length ≤ 2000) := Lib.hid (by
                    have h1 := HREL.out.2.2.1.bound HFI.out HFA.out
                    have h2 := (HL.out i0 k0 HR.out).d
                    have h3 := (HL.out ia cc HREL.out.2.1).d
                    have h4 : ca.d + cc.d = k0.d := by rw [← HREL.out.2.2.2.1]; rfl
                    omega)
                  have hal := HAL.out
                  have l0 := HLB7.out.cell 0
                  have HOW := Lib.hid (HS7.out.2.alloc (.cells #[.int .i64 x.id] 3))
                  have HOB : Hid (Blk (W.alloc (.cells #[.int .i64 x.id] 3)) W.heap.size 3 #[.int .i64 x.id]) := Lib.hid (Blk.new _ _ _)
                  have HSW := Lib.hid (HS7.out.1.below ((Below.refl _ _).alloc (Nat.le_refl _) (.cells #[.int .i64 x.id] 3)))
                  gi_wp2_with (first | (gi_at_builtin; refine wpListIn_append_any rfl (.tmp 73) (.tmp 76) (by rfl) elem_int rfl HOW.out rfl (one_int (x := x.id) HOB.out.lt (HOB.out.cell 0)) (ints_one _) (by unfold maxLen; omega) (by omega) HSW.out.fb.lt ?_) | fail)
                  rintro A8 c8 W8 hown hgr hA8
                  have hbV : Below (w2.heap.size + 1) (W.alloc (.cells #[.int .i64 x.id] 3)) W8 := below_of_grown hgr (fun k hk => own_row HOW.out hk) HSW.out.fb.lt
                  have HS8 := Lib.hid (HSW.out.low hbV)
                  have HOW8 := Lib.hid hown
                  clear hown hgr hA8 hbV l0
                  gi_wp2
                  gi_roundg (d1.c.toNat)
                  case rel =>
                    refine ⟨v', i2, addC ca cx, d1, acc ++ [x.id], A8, c8, rfl, by simp, rfl, Lib.hid ⟨HS8.out, HI2.out, HD1.out, HREL.out.2.2.1.snoc HXM.out HLD.out, by rw [addC_assoc, HADD.out]; exact HREL.out.2.2.2.1, fun c' r' hf => ?_, ?_⟩⟩
                    · have h1 := (greedy HC.out HFI.out HFA.out HREL.out.1 HREL.out.2.1 HNE.out).2 j x v' cx i2 d1 HX.out HLD.out HI2.out HD1.out HADD.out HNO.out c' r' hf
                      have h2 := HREL.out.2.2.2.2.1 _ _ h1
                      rw [addC_assoc, List.append_assoc]
                      exact h2
                    · have h := HOW8.out
                      simpa using h
                  case measure =>
                    have h1 := HCX.out
                    have h2 := (HL.out i2 d1 HD1.out).c
                    have h3 : cx.c + d1.c = cc.c := by rw [← HADD.out]; rfl
                    rw [hg]
                    omega
              · have HSC : Hid (decide (s = cc) = false) := Lib.hid (decide_eq_false hsc)
                clear hsc
                refine wpIn_region_old (AF := ?AF3) [0, 1, 2, 3, 4, 5, 6, 7, 8, 9, 10, 11, 12, 13, 14, 15, 16, 17] [] [true, true, true, true, true, true, true, true, true, true, true, true, true, true, true, true, true, true] [false, false, false, false, false, false, false, false, false, false, false, false, false, false, false, false, false, false] (by kernel_rfl) (by kernel_rfl) (by kernel_rfl) (by kernel_rfl) (by kernel_rfl) (below_drewN (Below.refl _ _) 1) ?hq3 ?ht3
                case hq3 =>
                  rintro σ hσ of hof hcl
                  have HOF := Lib.hid hof
                  have HCL := Lib.hid hcl
                  clear hof hcl
                  have q0 : ∀ z, (of z).cell? ⟨w5.heap.size, 0, none⟩ = some (.int .i64 cx.a) := fun z => (HCB6.out.below (HOF.out z) hcb6).cell 0
                  have q1 : ∀ z, (of z).cell? ⟨w5.heap.size, 1, none⟩ = some (.int .i64 cx.b) := fun z => (HCB6.out.below (HOF.out z) hcb6).cell 1
                  have q2 : ∀ z, (of z).cell? ⟨w5.heap.size, 2, none⟩ = some (.int .i64 cx.c) := fun z => (HCB6.out.below (HOF.out z) hcb6).cell 2
                  have q3 : ∀ z, (of z).cell? ⟨w5.heap.size, 3, none⟩ = some (.int .i64 cx.d) := fun z => (HCB6.out.below (HOF.out z) hcb6).cell 3
                  have t0 : ∀ z, (of z).cell? ⟨w.heap.size, 0, none⟩ = some (.slice A n c) := fun z => (HS6.out.1.tb.below (HOF.out z) htl6).cell 0
                  have t1 : ∀ z, (of z).cell? ⟨w.heap.size, 1, none⟩ = some (.slice (some ⟨b, off, none⟩) m d) := fun z => (HS6.out.1.tb.below (HOF.out z) htl6).cell 1
                  have v0 : ∀ z, (of z).cell? ⟨be, oe + i2 * 4, none⟩ = some (.int .i64 (entC r).a) := fun z => ((HS6.out.1.below (HOF.out z)).entry HR2.out).1
                  have v1 : ∀ z, (of z).cell? ⟨be, oe + i2 * 4 + 1, none⟩ = some (.int .i64 (entC r).b) := fun z => ((HS6.out.1.below (HOF.out z)).entry HR2.out).2.1
                  have v2 : ∀ z, (of z).cell? ⟨be, oe + i2 * 4 + 2, none⟩ = some (.int .i64 (entC r).c) := fun z => ((HS6.out.1.below (HOF.out z)).entry HR2.out).2.2.1
                  have v3 : ∀ z, (of z).cell? ⟨be, oe + i2 * 4 + 3, none⟩ = some (.int .i64 (entC r).d) := fun z => ((HS6.out.1.below (HOF.out z)).entry HR2.out).2.2.2
                  have u0 : ∀ z, (of z).cell? ⟨be, oe + ia * 4, none⟩ = some (.int .i64 cc.a) := fun z => ((HS6.out.1.below (HOF.out z)).entry HREL.out.2.1).1
                  have u1 : ∀ z, (of z).cell? ⟨be, oe + ia * 4 + 1, none⟩ = some (.int .i64 cc.b) := fun z => ((HS6.out.1.below (HOF.out z)).entry HREL.out.2.1).2.1
                  have u2 : ∀ z, (of z).cell? ⟨be, oe + ia * 4 + 2, none⟩ = some (.int .i64 cc.c) := fun z => ((HS6.out.1.below (HOF.out z)).entry HREL.out.2.1).2.2.1
                  have u3 : ∀ z, (of z).cell? ⟨be, oe + ia * 4 + 3, none⟩ = some (.int .i64 cc.d) := fun z => ((HS6.out.1.below (HOF.out z)).entry HREL.out.2.1).2.2.2
                  have hfw : ∀ f, Fence.wide.fn f := fun _ => trivial
                  simp only [pickB]
                  iterate 7 (gi_big_quiet_step (exact place_cls A n c (some ⟨b, off, none⟩) m d t v' i2 HPI2.out (by unfold maxLen; omega) w.heap.size HS6.out.1.bel.size (HA.out.below HS6.out.1.bel) HOF.out HCL.out _))
                  iterate 3 (gi_big_quiet_step (exact rplus_cls' cx (entC r) s HSS.out HSM.out.1 HSM.out.2 HOF.out HCL.out _))
                  iterate 6 (gi_big_quiet_step (exact place_cls A n c (some ⟨b, off, none⟩) m d t at_ ia HPIA.out.1 (by unfold maxLen; omega) w.heap.size HS6.out.1.bel.size (HA.out.below HS6.out.1.bel) HOF.out HCL.out _))
                  have hql : ∀ W : World, (binOp .eql 103 (.agg #[.int .i64 s.a, .int .i64 s.b, .int .i64 s.c, .int .i64 s.d]) (.agg #[.int .i64 cc.a, .int .i64 cc.b, .int .i64 cc.c, .int .i64 cc.d])).run Tryd.prog W = .ok (.bool false) W := fun W => (eql_cost s cc W).trans (by rw [HSC.out])
                  gi_big_quiet_step (fail)
                  gi_big_quiet_step (fail)
                  refine wpQuietIn_nil ?_
                  exact rfl
                case ht3 =>
                  intro W hb
                  have HS7 := Lib.hid (show _ ∧ _ from ⟨HS6.out.1.below hb, HS6.out.2.below hb (Nat.le_refl _)⟩)
                  clear hb
                  simp only [pickB]
                  refine wpE_nil ?_
                  gi_wp2
                  refine ⟨⟨j + 1, rfl, rfl, by rw [e1], by omega, Lib.hid ⟨HS7.out.1, HS7.out.2, fun y hy n' cy i' d' g1 g2 g3 => ?_⟩⟩, by simp [intOf]; omega⟩
                  rw [List.take_add_one, HX.out] at hy
                  rcases List.mem_append.1 hy with hy | hy
                  · exact HNO.out y hy n' cy i' d' g1 g2 g3
                  · obtain rfl : y = x := by simpa using hy
                    rw [HLD.out] at g1
                    cases g1
                    obtain rfl := HUQ.out i' g2
                    rw [HR2.out] at g3
                    cases g3
                    have h1 := of_decide_eq_false HSC.out
                    intro h2
                    exact h1 (HSS.out.symm.trans h2)
          · obtain rfl : j = m := by omega
            exfalso
            obtain ⟨x, hx, n', cx, i2, d', h1, h2, h3, h4⟩ := (greedy HC.out HFI.out HFA.out HREL.out.1 HREL.out.2.1 HNE.out).1
            exact HU.out.2.2 x (by rw [List.take_of_length_le (by rw [HLm.out]; exact Nat.le_refl _)]; exact hx) n' cx i2 d' h1 h2 h3 h4

theorem rfirst_any (A : Option Addr) (n c : Nat) (A' : Option Addr) (m d : Nat) (p : Price) (t : Town) (dk : Bool) (v to : Int) (w : World)
    (hm : m ≤ 20) (ha : IntsAt w w.heap.size A n t.places) (ht : LinksAt w w.heap.size A' m t.links) (hp : Cheap p) (hfine : Fine t) (hfair : Fair p) (hnd : t.places.Nodup) (hv : v ∈ t.places) :
    Calls Tryd.prog 57 #[.agg #[.slice A n c, .slice A' m d], .int .i64 v, .int .i64 to, .bool dk, .agg #[.int .i64 p.pace, .int .i64 p.up, .int .i64 p.step]] w (RFirstOut w (best t dk p v to)) :=
  callsIn_wide.1 (rfirst_in A n c A' m d p t dk v to w hm ha ht hp hfine hfair hnd hv)
end Go.Proofs.YtahkjagjcogeiaaDoor
