/- Part 5 of the texts of this claim, joined. -/
import Derived.Test.YtahkjagjcogeiaaGreatDoorRows
import Derived.RangeFuncNested
import Derived.Test.YtahkjagjcogeiaaGreatDoorZxExamples4
set_option linter.unusedVariables false
/- climb.chart.all: the first walks from a place to all others. -/
namespace Go.Proofs.YtahkjagjcogeiaaGreatDoor
section
open Go.RowKit Go.Shelf
attribute [local go_sem] Oper.semAt_some
structure WkOk (W : World) (p : Int × Wk) : Prop where
 to : p.2.to = p.1
 ok : okI p.1
 len : p.2.n = p.2.links.length
 short : p.2.n ≤ 9
 at_ : p.2.at_ W W.heap.size
 typ : ∀ a, p.2.A = some a → ∃ cs, Blk W a.block 3 cs
 cap : p.2.n ≤ p.2.cap
theorem WkOk.below {W W' : World} {p : Int × Wk} (h : WkOk W p) (hb : Below W.heap.size W W') : WkOk W' p := ⟨h.to, h.ok, h.len, h.short, h.at_.below hb hb.size, fun a ha => by obtain ⟨cs, h1⟩ := h.typ a ha; exact ⟨cs, h1.below hb h1.lt⟩, h.cap⟩
theorem ints_keep {W W' : World} {B n : Nat} {A : Option Addr} {l : List Int} (h : IntsAt W B A n l) (hk : ∀ (b : Nat) cs t fr, W.heap[b]? = some (.cells cs t fr) → b < B → W'.heap[b]? = some (.cells cs t fr)) : IntsAt W' B A n l := by
 refine ⟨h.1, fun hn => ?_⟩
 obtain ⟨ad, e, hb, hc⟩ := h.2 hn
 refine ⟨ad, e, hb, fun j u hu => ?_⟩
 have h1 := hc j u hu
 obtain ⟨o, ho, hcell⟩ := cells_of_cell h1
 rw [← h1]
 refine World.cell?_of_block ?_
 rw [ho]
 cases o <;> simp [Obj.isCells] at hcell
 exact hk _ _ _ _ ho (by rw [block_of_add]; exact hb)
structure AllSt (w : World) (BS : Nat) (T : Array Value) (ms mo : List (Int × Wk)) (W : World) : Prop where
 bel : Below w.heap.size w W
 ch : Blk W w.heap.size 107 T
 bs : Blk W BS 104 #[.map (some (w.heap.size + 1))]
 bo : Blk W (BS + 1) 104 #[.map (some (w.heap.size + 1 + 1))]
 mapS : WkMap W (w.heap.size + 1) ms
 mapO : WkMap W (w.heap.size + 1 + 1) mo
 oks : ∀ p ∈ ms, WkOk W p
 oko : ∀ p ∈ mo, WkOk W p
section
variable {w W W' : World} {BS : Nat} {T : Array Value} {ms mo : List (Int × Wk)}
theorem AllSt.below (h : AllSt w BS T ms mo W) (hb : Below W.heap.size W W') : AllSt w BS T ms mo W' :=
 ⟨h.bel.trans (hb.mono h.bel.size), h.ch.below hb h.ch.lt, h.bs.below hb h.bs.lt, h.bo.below hb h.bo.lt, h.mapS.below hb h.mapS.lt, h.mapO.below hb h.mapO.lt, fun p hp => (h.oks p hp).below hb, fun p hp => (h.oko p hp).below hb⟩
theorem Blk.grownMap {W W' : World} {g r : Nat} {t : TypeId} {cs : Array Value} (h : Blk W g t cs) (hg : W.grownBy W' (some r)) (hr : ∃ es cl, W.heap[r]? = some (.map es cl)) : Blk W' g t cs :=
 h.grown hg (fun e => by
  obtain ⟨es, cl, he⟩ := hr
  cases e
  unfold Blk at h
  rw [he] at h
  cases h)
theorem WkOk.grownBox {W W' : World} {p : Int × Wk} {g : Nat} {cs0 : Array Value} (h : WkOk W p) (hg : W.grownBy W' (some g)) (hb0 : Blk W g 99 cs0) : WkOk W' p := by
 have far : ∀ a, p.2.A = some a → a.block ≠ g := fun a ha e => by
  obtain ⟨cs, h1⟩ := h.typ a ha
  rw [e] at h1
  unfold Blk at h1 hb0
  rw [h1] at hb0
  simp at hb0
 exact ⟨h.to, h.ok, h.len, h.short, (Reads.grown h.at_ hg (Nat.le_refl _) (fun a ha e => far a ha (Option.some.inj e))).more hg.size, fun a ha => by
  obtain ⟨cs, h1⟩ := h.typ a ha
  exact ⟨cs, h1.grown hg (fun e => far a ha (Option.some.inj e))⟩, h.cap⟩
theorem WkOk.grown {W W' : World} {p : Int × Wk} {r : Nat} (h : WkOk W p) (hg : W.grownBy W' (some r)) (hr : ∃ es cl, W.heap[r]? = some (.map es cl)) : WkOk W' p :=
 ⟨h.to, h.ok, h.len, h.short, (ints_keep h.at_ (fun b cs t fr hb _ => (hg.block b (Array.getElem?_eq_some_iff.1 hb).1 (fun e => by
  obtain ⟨es, cl, he⟩ := hr
  cases e
  rw [he] at hb
  cases hb)).trans hb)).more hg.size, fun a ha => by obtain ⟨cs, h1⟩ := h.typ a ha; exact ⟨cs, h1.grownMap hg hr⟩, h.cap⟩
theorem MapIs.form {w : World} {r : Nat} {m : List (Int × Wk)} (h : WkMap w r m) : ∃ es cl, w.heap[r]? = some (.map es cl) := by
 obtain ⟨es, cl, h, _⟩ := h
 exact ⟨es, cl, h⟩
theorem AllSt.setS {W' : World} {ms' : List (Int × Wk)} (h : AllSt w BS T ms mo W) (hg : W.grownBy W' (some (w.heap.size + 1))) (hm : WkMap W' (w.heap.size + 1) ms') (hok : ∀ p ∈ ms', WkOk W p) : AllSt w BS T ms' mo W' :=
 ⟨h.bel.grown hg h.bel.size (fun k e => by cases e; omega), h.ch.grownMap hg h.mapS.form, h.bs.grownMap hg h.mapS.form, h.bo.grownMap hg h.mapS.form, hm, h.mapO.grown hg (by simp), fun p hp => (hok p hp).grown hg h.mapS.form, fun p hp => (h.oko p hp).grown hg h.mapS.form⟩
theorem AllSt.setO {W' : World} {mo' : List (Int × Wk)} (h : AllSt w BS T ms mo W) (hg : W.grownBy W' (some (w.heap.size + 1 + 1))) (hm : WkMap W' (w.heap.size + 1 + 1) mo') (hok : ∀ p ∈ mo', WkOk W p) : AllSt w BS T ms mo' W' :=
 ⟨h.bel.grown hg h.bel.size (fun k e => by cases e; omega), h.ch.grownMap hg h.mapO.form, h.bs.grownMap hg h.mapO.form, h.bo.grownMap hg h.mapO.form, h.mapS.grown hg (by simp), hm, fun p hp => (h.oks p hp).grown hg h.mapO.form, fun p hp => (hok p hp).grown hg h.mapO.form⟩
theorem AllSt.shut {S : Nat} (h : AllSt w BS T ms mo W) (hs : Shut S W W') (h1 : w.heap.size + 1 + 1 < S) : AllSt w BS T ms mo W' :=
 have keep : ∀ p : Int × Wk, WkOk W p → WkOk W' p := fun p hp => ⟨hp.to, hp.ok, hp.len, hp.short, (ints_keep hp.at_ (fun b cs t fr hb _ => hs.cells b cs t fr hb)).more hs.below.size, fun a ha => by obtain ⟨cs, h1⟩ := hp.typ a ha; exact ⟨cs, hs.blk h1⟩, hp.cap⟩
 ⟨h.bel.trans (hs.below.mono (by omega)), hs.blk h.ch, hs.blk h.bs, hs.blk h.bo, h.mapS.below hs.below (by omega), h.mapO.below hs.below (by omega), fun p hp => keep p (h.oks p hp), fun p hp => keep p (h.oko p hp)⟩
end
def KF (S n₀ g1 g2 : Nat) (W W' : World) : Prop := KeepsFrom S W W' ∧ FromK n₀ g1 g2 W W'
section
variable {S n₀ g1 g2 : Nat} {W W' W2 : World}
theorem KF.trans (h : KF S n₀ g1 g2 W W') (k : KF S n₀ g1 g2 W' W2) : KF S n₀ g1 g2 W W2 := ⟨h.1.trans k.1, fromK_t h.2 k.2⟩
theorem KF.below (hb : Below W.heap.size W W') (h1 : g1 < W.heap.size) (h2 : g2 < W.heap.size) (h0 : n₀ ≤ W.heap.size) : KF S n₀ g1 g2 W W' := ⟨keepsFrom_below hb, fromK_below hb h1 h2 h0⟩
theorem KF.box {g : Nat} {ty : TypeId} {cs0 : Array Value} (hg : W.grownBy W' (some g)) (hb0 : Blk W g ty cs0) (h0 : n₀ ≤ g) (h1 : g1 < g) (h2 : g2 < g) : KF S n₀ g1 g2 W W' := by
 have hlt := hb0.lt
 refine ⟨(KeepsOthers.of_grownBy hg (fun j o e ho => by cases e; unfold Blk at hb0; rw [hb0] at ho; cases ho; rfl)).from S, below_of_grown hg (fun k e => by cases e; exact h0) (by omega), ?_, ?_⟩
 ·exact hg.block g1 (by omega) (fun e => by cases e; omega)
 ·exact hg.block g2 (by omega) (fun e => by cases e; omega)
theorem KF.map {r : Nat} (hg : W.grownBy W' (some r)) (hr : r < S) (h0 : n₀ ≤ r) (hn : n₀ ≤ W.heap.size) (h1 : g1 < W.heap.size) (h2 : g2 < W.heap.size) (e1 : g1 ≠ r) (e2 : g2 ≠ r) : KF S n₀ g1 g2 W W' :=
 ⟨KeepsFrom.of_grownBy hg (fun j e => by cases e; exact hr), below_of_grown hg (fun k e => by cases e; exact h0) hn, hg.block g1 h1 (fun e => e1 (Option.some.inj e)), hg.block g2 h2 (fun e => e2 (Option.some.inj e))⟩
end
theorem WkOk.new {W : World} {base cap : Nat} {A : Option Addr} {l : List Int} {v i : Int} {c : Cost} {m : Nat} (h : Own W base 3 1 A (m + 1) cap ((l ++ [i]).map (Value.int .i64))) (hl : m = l.length) (hm : m ≤ 8) (hv : okI v) : WkOk W (v, ⟨v, c, l ++ [i], A, m + 1, cap⟩) :=
 ⟨rfl, hv, by simp [hl], by show m + 1 ≤ 9; omega, ints_of_own h (Nat.le_refl _), fun a ha => by
  rcases h.form with ⟨e, _⟩ | ⟨g, cur, e, _, hb, _⟩
  ·rw [show A = some a from ha] at e; cases e
  ·rw [show A = some a from ha] at e; cases e; exact ⟨cur, hb⟩, h.cap_le.1⟩
structure AGh where
 co : Cost
 sA : Option Addr
 sn : Nat
 sc : Nat
 A57 : Option Addr
 c57 : Nat
 b60 : Nat
 A61 : Option Addr
 c61 : Nat
theorem Small.any {c : Cost} (h : 0 ≤ c.a ∧ c.a ≤ 125000 ∧ 0 ≤ c.b ∧ c.b ≤ 500 ∧ 1 ≤ c.c ∧ c.c ≤ 2000 ∧ c.d = 1) : Small c := ⟨by omega, by omega, by omega, by omega⟩
theorem Small.of_walk {t : Town} {dk : Bool} {p : Price} {u v : Int} {c : Cost} {l : List Int} (h : Walk t dk p u v c l) (ht : Fine t) (hp : Fair p) (hl : l.length ≤ 40) : Small c := by
 have := h.bound ht hp
 exact ⟨by omega, by omega, by omega, by omega⟩
theorem grown_belowB {w W W' : World} {row : Option Nat} (h : w.grownBy W row) (k : Below w.heap.size W W') : w.grownBy W' row :=
 ⟨k.os.trans h.os, k.tape.trans h.tape, k.output.trans h.output, Nat.le_trans h.size k.size, fun i hi hr => (k.block i hi).trans (h.block i hi hr)⟩
theorem own_row {w : World} {base n cap size k : Nat} {e : TypeId} {A : Option Addr} {xs : List Value} (h : Own w base e size A n cap xs) (hk : A.map (·.block) = some k) : base ≤ k := by
 cases A with
 | none => cases hk
 | some a => cases hk; exact (h.lt rfl).1
def mapSize (w : World) (r : Nat) : Nat := match w.heap[r]? with
 | some (.map es _) => es.size
 | _ => 0
theorem mapSize_eq {w : World} {r : Nat} {m : List (Int × Wk)} (h : WkMap w r m) : mapSize w r = m.length := by
 obtain ⟨es, cl, h1, h2, _⟩ := h
 unfold mapSize
 simp only [h1]
 have := congrArg List.length h2
 simpa using this
theorem keys_le {t : Town} {w : World} {r : Nat} {m : List (Int × Wk)} (h : WkMap w r m) (hk : ∀ q ∈ m, q.1 ∈ t.places) (hf : Fine t) : m.length ≤ 9 := by
 have hn := MapIs.nodup wkTy h
 have := nodup_le (a := m.map Prod.fst) (b := t.places) hn (fun v hv => by obtain ⟨q, hq, rfl⟩ := List.mem_map.1 hv; exact hk q hq)
 have h2 := hf.size
 simp at this
 omega
theorem Marks.grownMap {B r : Nat} {W W' : World} {ds : List Deferred} (h : Marks B W ds) (hg : W.grownBy W' (some r)) (hr : ∃ es cl, W.heap[r]? = some (.map es cl)) : Marks B W' ds :=
 h.keep fun d hd k hk h0 => (hg.block k (Array.getElem?_eq_some_iff.1 h0).1 (fun e => by
  obtain ⟨es, cl, he⟩ := hr
  cases e
  rw [he] at h0
  cases h0)).trans h0
def AllOut (w : World) (t : Town) (dk : Bool) (p : Price) (s : Int) (e : Ending) (w' : World) : Prop :=
 ∃ r ms, e = .returned (.map (some r)) ∧ WkMap w' r ms ∧ w.heap.size ≤ r ∧ (∀ q ∈ ms, WkOk w' q) ∧ (∀ v, fnOf ms v = best t dk p s v) ∧ Below w.heap.size w w'
structure AllIn (w : World) (BS : Nat) (T : Array Value) (ms mo : List (Int × Wk)) (x : Wk) (B7 : Nat) (ds : List Deferred) (S : Nat) (W : World) : Prop where
 st : AllSt w BS T ms mo W
 b7 : Blk W B7 99 #[.int .i64 x.to, .int .i64 x.cost.a, .int .i64 x.cost.b, .int .i64 x.cost.c, .int .i64 x.cost.d, .slice x.A x.n x.cap]
 xat : IntsAt W B7 x.A x.n x.links
 marks : Marks w.heap.size W ds
 sz : S ≤ W.heap.size
section
variable {w W W' : World} {BS : Nat} {T : Array Value} {ms mo : List (Int × Wk)} {x : Wk} {B7 S : Nat} {ds : List Deferred}
theorem AllIn.below (h : AllIn w BS T ms mo x B7 ds S W) (hb : Below W.heap.size W W') : AllIn w BS T ms mo x B7 ds S W' :=
 ⟨h.st.below hb, h.b7.below hb h.b7.lt, h.xat.below (hb.mono (Nat.le_of_lt h.b7.lt)), h.marks.below hb, Nat.le_trans h.sz hb.size⟩
theorem AllIn.shut (h : AllIn w BS T ms mo x B7 ds S W) (hs : Shut S W W') (h1 : w.heap.size + 1 + 1 < S) (hd : ∀ d ∈ ds, ∀ r, d.target = .collected r → r < S) : AllIn w BS T ms mo x B7 ds S W' :=
 ⟨h.st.shut hs h1, hs.blk h.b7, ints_keep h.xat (fun b cs t fr hb _ => hs.cells b cs t fr hb), h.marks.shut hs hd, Nat.le_trans h.sz hs.below.size⟩
end
section
variable {w W W' : World} {BS : Nat} {T : Array Value} {ms mo : List (Int × Wk)} {x : Wk} {B7 S : Nat} {ds : List Deferred}
theorem AllIn.box {g : Nat} {cs0 : Array Value} (h : AllIn w BS T ms mo x B7 ds S W) (hg : W.grownBy W' (some g)) (hb0 : Blk W g 99 cs0) (hw : w.heap.size + 1 + 1 < g) (hS : BS + 1 < g) (hB : B7 < g) : AllIn w BS T ms mo x B7 ds S W' :=
 ⟨⟨h.st.bel.grown hg h.st.bel.size (fun k e => by cases e; omega), h.st.ch.grown hg (fun e => by cases e; omega), h.st.bs.grown hg (fun e => by cases e; omega), h.st.bo.grown hg (fun e => by cases e; omega), h.st.mapS.grown hg (fun e => by cases e; omega), h.st.mapO.grown hg (fun e => by cases e; omega), fun p hp => (h.st.oks p hp).grownBox hg hb0, fun p hp => (h.st.oko p hp).grownBox hg hb0⟩,
  h.b7.grown hg (fun e => by cases e; omega), ints_keep h.xat (fun b cs ty fr hb hlt => (hg.block b (Array.getElem?_eq_some_iff.1 hb).1 (fun e => by cases e; omega)).trans hb),
  h.marks.keep (fun d hd k hk h0 => (hg.block k (Array.getElem?_eq_some_iff.1 h0).1 (fun e => by cases e; unfold Blk at hb0; rw [hb0] at h0; cases h0)).trans h0), Nat.le_trans h.sz hg.size⟩
theorem AllIn.setO {mo' : List (Int × Wk)} (h : AllIn w BS T ms mo x B7 ds S W) (hg : W.grownBy W' (some (w.heap.size + 1 + 1))) (hm : WkMap W' (w.heap.size + 1 + 1) mo') (hok : ∀ p ∈ mo', WkOk W p) : AllIn w BS T ms mo' x B7 ds S W' :=
 ⟨h.st.setO hg hm hok, h.b7.grownMap hg h.st.mapO.form, ints_keep h.xat (fun b cs ty fr hb hlt => (hg.block b (Array.getElem?_eq_some_iff.1 hb).1 (fun e => by
  obtain ⟨es, cl, he⟩ := h.st.mapO.form
  cases e
  rw [he] at hb
  cases hb)).trans hb), h.marks.grownMap hg h.st.mapO.form, Nat.le_trans h.sz hg.size⟩
end
set_option maxRecDepth 100000 in
set_option maxHeartbeats 16000000 in
theorem all_in (A : Option Addr) (nn c : Nat) (A' : Option Addr) (m d : Nat) (dk : Bool) (F : FuncId) (C : Array Value) (p : Price) (t : Town) (place : Int) (w : World)
  (hm : m ≤ 20) (ht : LinksAt w w.heap.size A' m t.links) (hp : PriceAt w p F C) (hfine : Fine t) (hfair : Fair p) (hplace : place ∈ t.places) (hids : ∀ v ∈ t.places, 1 ≤ v ∧ v ≤ 9999) :
  CallsIn Fence.wide 9 Tryz.prog 59 #[.agg #[.slice A nn c, .slice A' m d, .bool dk, .func (.func F) #[] C], .int .i64 place] w (AllOut w t dk p place) := by
 have HT := lh ht
 have HP := lh hp
 have HFI := lh hfine
 have HFA := lh hfair
 have HPL := lh hplace
 have HID := lh hids
 have HF : Hid (∀ x ∈ t.links, Fit x) := lh fun x hx => ⟨hfine.steps x hx, hfine.paces x hx⟩
 have hokp : okI place := okI_of (by have := hids place hplace; omega) (by have := hids place hplace; omega)
 clear ht hp hfine hfair hplace hids
 have hmm := @run_makeMap Tryz.prog
 have M0 : WkMap (((w.alloc (.cells #[.slice A nn c, .slice A' m d, .bool dk, .func (.func F) #[] C] 107)).alloc (.map #[] 0)).alloc (.map #[] 0)) (w.heap.size + 1 + 1) [] := by
  have h := MapIs.made (β := Wk) (encK := Value.int .i64) (encV := Wk.val) (okK := okI) ((w.alloc (.cells #[.slice A nn c, .slice A' m d, .bool dk, .func (.func F) #[] C] 107)).alloc (.map #[] 0))
  rw [World.size_alloc, World.size_alloc] at h
  exact h
 have M1 : WkMap (((w.alloc (.cells #[.slice A nn c, .slice A' m d, .bool dk, .func (.func F) #[] C] 107)).alloc (.map #[] 0)).alloc (.map #[] 0)) (w.heap.size + 1) [] := by
  have h := (MapIs.made (β := Wk) (encK := Value.int .i64) (encV := Wk.val) (okK := okI) (w.alloc (.cells #[.slice A nn c, .slice A' m d, .bool dk, .func (.func F) #[] C] 107))).alloc (.map #[] 0)
  rw [World.size_alloc] at h
  exact h
 have B0 : Below w.heap.size w (((w.alloc (.cells #[.slice A nn c, .slice A' m d, .bool dk, .func (.func F) #[] C] 107)).alloc (.map #[] 0)).alloc (.map #[] 0)) := (((Below.refl _ _).alloc (Nat.le_refl _) _).alloc (by simp) _).alloc (by simp; omega) _
 have X0 : Blk (((w.alloc (.cells #[.slice A nn c, .slice A' m d, .bool dk, .func (.func F) #[] C] 107)).alloc (.map #[] 0)).alloc (.map #[] 0)) w.heap.size 107 #[.slice A nn c, .slice A' m d, .bool dk, .func (.func F) #[] C] := ((Blk.new w _ _).alloc _).alloc _
 have hsz3 : (((w.alloc (.cells #[.slice A nn c, .slice A' m d, .bool dk, .func (.func F) #[] C] 107)).alloc (.map #[] 0)).alloc (.map #[] 0)).heap.size = w.heap.size + 3 := by simp
 obtain ⟨wi, hri, hmi, hgi, hsi⟩ := MapIs.update (P := Tryz.prog) wkTy M0 hokp (⟨place, ⟨0, 0, 0, 0⟩, [], none, 0, 0⟩ : Wk)
 have hmi1 : WkMap wi (w.heap.size + 1) [] := M1.grown hgi (by simp)
 have HMI := lh hmi
 have HMI1 := lh hmi1
 have HXI := lh (X0.grownMap hgi M0.form)
 have HBI := lh (B0.grown hgi (by rw [hsz3]; omega) (fun k e => by cases e; omega))
 have HSI : Hid (wi.heap.size = w.heap.size + 3) := lh (hsi.trans hsz3)
 clear hmi hmi1 M0 M1 B0 X0 hsz3 hgi hsi
 refine callsIn_of_wp_marks Tryz.func59 rfl trivial ?_ rfl
 simp only [Tryz.ntmps59, List.size_toArray, List.length_cons, List.length_nil, Nat.reduceAdd, Nat.reduceSub, Array.replicate_succ, Array.replicate_zero, List.push_toArray, List.append_toArray, List.nil_append, List.cons_append]
 gi_wp2
 have HBS : Hid (w.heap.size + 1 + 1 < wi.heap.size) := lh (by rw [HSI.out]; omega)
 have S0 : AllSt w wi.heap.size #[.slice A nn c, .slice A' m d, .bool dk, .func (.func F) #[] C] [] (put [] place ⟨place, ⟨0, 0, 0, 0⟩, [], none, 0, 0⟩) ((wi.alloc (.cells #[.map (some (w.heap.size + 1))] 104)).alloc (.cells #[.map (some (w.heap.size + 1 + 1))] 104)) := by
  have Y := Blk.new (wi.alloc (.cells #[.map (some (w.heap.size + 1))] 104)) 104 #[.map (some (w.heap.size + 1 + 1))]
  rw [World.size_alloc] at Y
  refine ⟨(HBI.out.alloc HBI.out.size _).alloc (by simp; have := HBI.out.size; omega) _, (HXI.out.alloc _).alloc _, (Blk.new wi _ _).alloc _, Y, (HMI1.out.alloc _).alloc _, (HMI.out.alloc _).alloc _, (fun q hq => by cases hq), fun q hq => ?_⟩
  have e : q = (place, ⟨place, ⟨0, 0, 0, 0⟩, [], none, 0, 0⟩) := by simpa [put] using hq
  subst e
  exact ⟨rfl, hokp, rfl, Nat.zero_le _, Reads.none_, (fun a ha => by cases ha), Nat.le_refl _⟩
 have D0 : DInv t dk p place (fnOf []) (fnOf (put [] place ⟨place, ⟨0, 0, 0, 0⟩, [], none, 0, 0⟩)) := by
  have h := DInv.init (t := t) (dk := dk) (p := p) place
  rw [fnOf_put, fnOf_nil]
  exact h
 clear hri
 generalize ((wi.alloc (.cells #[.map (some (w.heap.size + 1))] 104)).alloc (.cells #[.map (some (w.heap.size + 1 + 1))] 104)) = w0 at *
 generalize wi.heap.size = BS at *
 have S0' := lh S0
 have D0' := lh D0
 clear S0 D0
 refine wpIn_loop (fun a W => ∃ (ms mo : List (Int × Wk)) (ds : List Deferred) (u7 u8 u21 u22 u23 u24 u25 u26 u27 u28 u29 u30 u31 u32 u33 u34 u35 u36 u37 u38 u39 : Value), Hid (AllSt w BS #[.slice A nn c, .slice A' m d, .bool dk, .func (.func F) #[] C] ms mo W ∧ Marks w.heap.size W ds ∧ DInv t dk p place (fnOf ms) (fnOf mo) ∧ (∀ q ∈ ms, q.1 ∈ t.places) ∧ (∀ q ∈ mo, q.1 ∈ t.places)) ∧
   a = { tmps := #[.agg #[.slice A nn c, .slice A' m d, .bool dk, .func (.func F) #[] C], .int .i64 place, .pointer (some ⟨w.heap.size, 0, none⟩), undef, .map none, .pointer (some ⟨BS, 0, none⟩), .pointer (some ⟨BS + 1, 0, none⟩), u7, u8, undef, undef, undef, undef, undef, undef, .map (some (w.heap.size + 1)), .map (some (w.heap.size + 1 + 1)), .int .i64 place, .int .i64 place, .agg #[.int .i64 place, .int .i64 0, .int .i64 0, .int .i64 0, .int .i64 0, .slice none 0 0], .map (some (w.heap.size + 1 + 1)), u21, u22, u23, u24, u25, u26, u27, u28, u29, u30, u31, u32, u33, u34, u35, u36, u37, u38, u39, undef, undef, undef, undef, undef, undef, undef, undef, undef, undef, undef, undef, undef, undef, undef, undef, undef, undef, undef, undef, undef, undef, undef, undef, undef, undef, undef, undef, undef, undef, undef, undef, undef, undef, undef, undef, undef, undef, undef, undef, undef, undef, undef], defers := ds })
  (fun _ W => 10 - mapSize W (w.heap.size + 1)) ?_ ?_
 ·exact ⟨[], _, [], undef, undef, undef, undef, undef, undef, undef, undef, undef, undef, undef, undef, undef, undef, undef, undef, undef, undef, undef, undef, undef, lh ⟨S0'.out, trivial, D0'.out, (fun q hq => by cases hq), fun q hq => by
   have e : q = (place, ⟨place, ⟨0, 0, 0, 0⟩, [], none, 0, 0⟩) := by simpa [put] using hq
   subst e
   exact HPL.out⟩, rfl⟩
 ·rintro a W ⟨ms, mo, ds, u7, u8, u21, u22, u23, u24, u25, u26, u27, u28, u29, u30, u31, u32, u33, u34, u35, u36, u37, u38, u39, HS, rfl⟩
  have HFO := lh (first_in (BS + 1) (w.heap.size + 1 + 1) mo W HS.out.1.bo HS.out.1.mapO (fun y hy => by
   obtain ⟨q, hq, rfl⟩ := List.mem_map.1 hy
   exact ⟨(HS.out.1.oko q hq).at_, Nat.le_trans (HS.out.1.oko q hq).short (by omega)⟩))
  gi_wp2
  refine ⟨trivial, (callsIn_wide.2 (callsIn_wide.1 HFO.out)).mono ?_⟩
  rintro e w1 ⟨v, f, rfl, hbest, hb1⟩
  have HS1 := lh (HS.out.1.below hb1)
  have HB1 := lh hb1
  clear hb1
  cases f
  ·have hv : mo = [] ∧ v = zeroWk := by
    rcases hbest with ⟨h0, h1, _⟩ | ⟨_, _, _, h1, _⟩
    ·exact ⟨List.map_eq_nil_iff.1 h0, h1⟩
    ·cases h1
   obtain ⟨hmo, rfl⟩ := hv
   have HMO := lh hmo
   clear hbest hmo
   have s5 : w1.cell? ⟨BS, 0, none⟩ = some (.map (some (w.heap.size + 1))) := HS1.out.bs.cell 0
   have sl := HS1.out.bs.lt
   gi_wp2
   have hmk := (HS.out.2.1.below HB1.out).below ((Below.refl w1.heap.size w1).alloc (Nat.le_refl _) (.cells #[.int .i64 0, .int .i64 0, .int .i64 0, .int .i64 0, .int .i64 0, .slice none 0 0] 99))
   have hst := HS1.out.below ((Below.refl w1.heap.size w1).alloc (Nat.le_refl _) (.cells #[.int .i64 0, .int .i64 0, .int .i64 0, .int .i64 0, .int .i64 0, .slice none 0 0] 99))
   refine leaves_marksD _ _ hmk ?_
   intro w' hs
   refine ⟨.map (some (w.heap.size + 1)), ?_, w.heap.size + 1, ms, rfl, ?_, by omega, ?_, ?_, hst.bel.trans hs.below⟩
   ·simp [results, Tryz.results59, go_sem]
   ·obtain ⟨es, cl, h1, h2⟩ := hst.mapS
    exact ⟨es, cl, hs.others _ _ h1 (fun x e => by cases e), h2⟩
   ·intro q hq
    have h := hst.oks q hq
    exact ⟨h.to, h.ok, h.len, h.short, (hs.reads h.at_).more hs.below.size, (fun a ha => by obtain ⟨cs, h1⟩ := h.typ a ha; exact ⟨cs, hs.blk h1⟩), h.cap⟩
   ·intro v
    have h := HS.out.2.2.1.over (fun v => by rw [HMO.out]; rfl) v
    exact (first_iff HFI.out HFA.out).1 h
  ·have hv : ∃ x, (∃ k, (k, x) ∈ mo) ∧ v = x.val ∧ ∀ q ∈ mo, cmpW x.cost x.links q.2.cost q.2.links ≤ 0 := by
    rcases hbest with ⟨_, _, h1⟩ | ⟨x, hx, h1, _, h2⟩
    ·cases h1
    ·obtain ⟨q, hq, rfl⟩ := List.mem_map.1 hx
     exact ⟨q.2, ⟨q.1, hq⟩, h1, fun q' hq' => h2 q'.2 (List.mem_map.2 ⟨q', hq', rfl⟩)⟩
   obtain ⟨x, ⟨kx, hx⟩, rfl, hmin⟩ := hv
   have hkx : kx = x.to := (HS.out.1.oko _ hx).to.symm
   subst hkx
   have hxo := HS1.out.oko _ hx
   have hok := hxo.ok
   have HX := lh hx
   have HXO := lh hxo
   have HMIN := lh hmin
   have HXP := lh (HS.out.2.2.2.2 _ hx)
   have hA2 := HS1.out.below ((Below.refl w1.heap.size w1).alloc (Nat.le_refl _) (.cells #[.int .i64 x.to, .int .i64 x.cost.a, .int .i64 x.cost.b, .int .i64 x.cost.c, .int .i64 x.cost.d, .slice x.A x.n x.cap] 99))
   obtain ⟨w3, hdel, hm3, hg3, hs3⟩ := MapIs.delete_ (P := Tryz.prog) wkTy hA2.mapO hok 0
   have hA3 := hA2.setO hg3 hm3 (fun q hq => hA2.oko q (mem_cut.1 hq).1)
   have hb73 : Blk w3 w1.heap.size 99 #[.int .i64 x.to, .int .i64 x.cost.a, .int .i64 x.cost.b, .int .i64 x.cost.c, .int .i64 x.cost.d, .slice x.A x.n x.cap] := (Blk.new w1 _ _).grownMap hg3 hA2.mapO.form
   obtain ⟨w4, hup, hm4, hg4, hs4⟩ := MapIs.update (P := Tryz.prog) wkTy hA3.mapS hok x
   have hok3 : WkOk w3 (x.to, x) := (hxo.below ((Below.refl w1.heap.size w1).alloc (Nat.le_refl _) _)).grown hg3 hA2.mapO.form
   have hA4 := hA3.setS hg4 hm4 (fun q hq => by
    rcases mem_put hq with rfl | hq
    ·exact hok3
    ·exact hA3.oks q hq.1)
   have hb74 : Blk w4 w1.heap.size 99 #[.int .i64 x.to, .int .i64 x.cost.a, .int .i64 x.cost.b, .int .i64 x.cost.c, .int .i64 x.cost.d, .slice x.A x.n x.cap] := hb73.grownMap hg4 hA3.mapS.form
   have hok4 : WkOk w4 (x.to, x) := hok3.grown hg4 hA3.mapS.form
   have hmk4 : Marks w.heap.size w4 ds := by
    have h1 := (HS.out.2.1.below HB1.out).below ((Below.refl w1.heap.size w1).alloc (Nat.le_refl _) (.cells #[.int .i64 x.to, .int .i64 x.cost.a, .int .i64 x.cost.b, .int .i64 x.cost.c, .int .i64 x.cost.d, .slice x.A x.n x.cap] 99))
    have h2 := h1.grownMap hg3 hA2.mapO.form
    exact h2.grownMap hg4 hA3.mapS.form
   have hx4 : IntsAt w4 w1.heap.size x.A x.n x.links := by
    have h1 : IntsAt (w1.alloc (.cells #[.int .i64 x.to, .int .i64 x.cost.a, .int .i64 x.cost.b, .int .i64 x.cost.c, .int .i64 x.cost.d, .slice x.A x.n x.cap] 99)) w1.heap.size x.A x.n x.links := IntsAt.below hxo.at_ ((Below.refl w1.heap.size w1).alloc (Nat.le_refl _) _)
    have h2 := ints_keep h1 (W' := w3) (fun b cs ty fr hb _ => (hg3.block b (Array.getElem?_eq_some_iff.1 hb).1 (fun e => by
     obtain ⟨es, cl, he⟩ := hA2.mapO.form
     cases e
     rw [he] at hb
     cases hb)).trans hb)
    exact ints_keep h2 (fun b cs ty fr hb _ => (hg4.block b (Array.getElem?_eq_some_iff.1 hb).1 (fun e => by
     obtain ⟨es, cl, he⟩ := hA3.mapS.form
     cases e
     rw [he] at hb
     cases hb)).trans hb)
   have HX4 := lh hx4
   have hsz4 : w4.heap.size = w1.heap.size + 1 := by rw [hs4, hs3]; simp
   have HA4 := lh hA4
   have HB74 := lh hb74
   have HOK4 := lh hok4
   have HMK4 := lh hmk4
   have HSZ4 := lh hsz4
   have o1 := HS1.out.bo.cell 0
   have ol := HS1.out.bo.lt
   have e0 := hA3.bs.cell 0
   have e1 := hb73.cell 0
   have e2 := hb73.cell 1
   have e3 := hb73.cell 2
   have e4 := hb73.cell 3
   have e5 := hb73.cell 4
   have e6 := hb73.cell 5
   have g0 := hA4.ch.cell 0
   have g1 := hA4.ch.cell 1
   have g2 := hA4.ch.cell 2
   have g3 := hA4.ch.cell 3
   have g4 := hb74.cell 0
   clear hx hxo hok hmin hA2 hm3 hg3 hs3 hA3 hb73 hm4 hg4 hs4 hok3 hA4 hb74 hok4 hmk4 hsz4 hbest hx4
   gi_wp2
   refine ⟨trivial, (callsIn_wide.2 (from_any _ _ _ _ _ rfl x.to _)).mono ?_⟩
   rintro e w5 ⟨rfl, rfl⟩
   have HR0 : Hid (DRound t dk p place x.to x.cost x.links [] (fnOf (put ms x.to x)) (fnOf (cut mo x.to))) := lh (by
    rw [fnOf_put, fnOf_cut]
    exact HS.out.2.2.1.enter' HFI.out HFA.out (fnOf_mem (MapIs.nodup wkTy HS.out.1.mapO) HX.out) (fun v' c' l' hv => by
     obtain ⟨z, hz, rfl, rfl⟩ := fnOf_some hv
     have := HMIN.out _ hz
     rwa [cmpW_key] at this))
   have FI := (from_in w4 #[.slice A nn c, .slice A' m d, .bool dk, .func (.func F) #[] C] x.to).base HA4.out.bel
   have hb6 : Below w4.heap.size w4 ((w4.alloc (.cells #[.slice A nn c, .slice A' m d, .bool dk, .func (.func F) #[] C] 107)).alloc (.cells #[.int .i64 x.to] 3)) := ((Below.refl _ _).alloc (Nat.le_refl _) _).alloc (by simp) _
   have AI : AllIn w BS #[.slice A nn c, .slice A' m d, .bool dk, .func (.func F) #[] C] (put ms x.to x) (cut mo x.to) x w1.heap.size ds ((w4.alloc (.cells #[.slice A nn c, .slice A' m d, .bool dk, .func (.func F) #[] C] 107)).alloc (.cells #[.int .i64 x.to] 3)).heap.size ((w4.alloc (.cells #[.slice A nn c, .slice A' m d, .bool dk, .func (.func F) #[] C] 107)).alloc (.cells #[.int .i64 x.to] 3)) :=
    ⟨HA4.out.below hb6, HB74.out.below hb6 HB74.out.lt, HX4.out.below (hb6.mono (by have := HSZ4.out; omega)), HMK4.out.below hb6, Nat.le_refl _⟩
   have g1l := FI.chart.lt
   have g2l := FI.place.lt
   have hdl : ∀ dd ∈ ds, ∀ r, dd.target = .collected r → r < ((w4.alloc (.cells #[.slice A nn c, .slice A' m d, .bool dk, .func (.func F) #[] C] 107)).alloc (.cells #[.int .i64 x.to] 3)).heap.size := fun dd hd r hr => by
    have := HMK4.out.lt dd hd r hr
    simp
    omega
   have HSZ6 : Hid (((w4.alloc (.cells #[.slice A nn c, .slice A' m d, .bool dk, .func (.func F) #[] C] 107)).alloc (.cells #[.int .i64 x.to] 3)).heap.size = w1.heap.size + 3) := lh (by have := HSZ4.out; simp; omega)
   have hbs1 : BS + 1 < w1.heap.size := ol
   clear hdel hup o1 e0 e1 e2 e3 e4 e5 e6 g0 g1 g2 g3 g4 hb6
   gi_wp2
   generalize ((w4.alloc (.cells #[.slice A nn c, .slice A' m d, .bool dk, .func (.func F) #[] C] 107)).alloc (.cells #[.int .i64 x.to] 3)) = w6 at *
   have hws : w.heap.size ≤ w6.heap.size := FI.below.size
   have hlt2 : w.heap.size + 1 + 1 < w6.heap.size := by have := HBS.out; have := HSZ6.out; omega
   refine wpIn_rangeFunc_ownH rfl (by omega) (gf := 129) (lb := #[.pointer (some ⟨w4.heap.size, 0, none⟩), .pointer (some ⟨w4.heap.size + 1, 0, none⟩)]) rfl trivial (enters_of Tryz.func129 (by kernel_rfl) rfl)
    (from1_stops 8 (by omega) A nn c A' m d dk F C p t x.to w4.heap.size (w4.heap.size + 1) w w6 hm HT.out HP.out HF.out FI) (fun h k => fromK_t h k) (fromK_b g1l g2l hws) (Below.refl _ _) (fun _ => rfl)
    (fun pre Wr => ∃ mo1, AllIn w BS #[.slice A nn c, .slice A' m d, .bool dk, .func (.func F) #[] C] (put ms x.to x) mo1 x w1.heap.size ds w6.heap.size Wr ∧ DRound t dk p place x.to x.cost x.links (pre.map Subtype.val) (fnOf (put ms x.to x)) (fnOf mo1) ∧ ∀ q ∈ mo1, q.1 ∈ t.places)
    (fun cd pre Wr => False)
    (ownFrom_shut (fun s Wr h => by obtain ⟨mo1, h, _⟩ := h; exact h.sz) (fun s Wr Wr' h hs => by obtain ⟨mo1, h, h2⟩ := h; exact ⟨mo1, h.shut hs hlt2 hdl, h2⟩))
    (fun cd => ownFrom_shut (fun s Wr h => h.elim) (fun s Wr Wr' h hs => h))
    ⟨_, AI, HR0.out, fun q hq => HS.out.2.2.2.2 q (mem_cut.1 hq).1⟩
    (fun y a' Wr => ∃ Bx, w6.heap.size ≤ Bx ∧ Blk Wr Bx 52 #[.int .i64 y.1.1.id, .int .i64 y.1.1.fr, .int .i64 y.1.1.to, .int .i64 y.1.1.steps, .int .i64 y.1.1.paces] ∧ Blk Wr (Bx + 1) 99 #[.int .i64 y.1.2.1, .int .i64 y.1.2.2.a, .int .i64 y.1.2.2.b, .int .i64 y.1.2.2.c, .int .i64 y.1.2.2.d, .slice none 0 0] ∧
     a' = { tmps := #[.agg #[.slice A nn c, .slice A' m d, .bool dk, .func (.func F) #[] C], .int .i64 place, .pointer (some ⟨w.heap.size, 0, none⟩), undef, .map none, .pointer (some ⟨BS, 0, none⟩), .pointer (some ⟨BS + 1, 0, none⟩), .pointer (some ⟨w1.heap.size, 0, none⟩), .bool true, .pointer (some ⟨Bx, 0, none⟩), .pointer (some ⟨Bx + 1, 0, none⟩), undef, undef, undef, undef, .map (some (w.heap.size + 1)), .map (some (w.heap.size + 1 + 1)), .int .i64 place, .int .i64 place, .agg #[.int .i64 place, .int .i64 0, .int .i64 0, .int .i64 0, .int .i64 0, .slice none 0 0], .map (some (w.heap.size + 1 + 1)), .tuple #[x.val, .bool true], .func (.func 103) #[] #[.pointer (some ⟨BS + 1, 0, none⟩)], .tuple #[x.val, .bool true], x.val, .bool true, .bool true, .bool false, u28, .map (some (w.heap.size + 1 + 1)), .pointer (some ⟨w1.heap.size, 0, none⟩), .int .i64 x.to, .map (some (w.heap.size + 1)), .pointer (some ⟨w1.heap.size, 0, none⟩), .int .i64 x.to, .agg #[.int .i64 x.to, .int .i64 x.cost.a, .int .i64 x.cost.b, .int .i64 x.cost.c, .int .i64 x.cost.d, .slice x.A x.n x.cap], .agg #[.slice A nn c, .slice A' m d, .bool dk, .func (.func F) #[] C], .pointer (some ⟨w1.heap.size, 0, none⟩), .int .i64 x.to, .func (.func 129) #[] #[.pointer (some ⟨w4.heap.size, 0, none⟩), .pointer (some ⟨w4.heap.size + 1, 0, none⟩)], linkV y.1.1, .agg #[.int .i64 y.1.2.1, .int .i64 y.1.2.2.a, .int .i64 y.1.2.2.b, .int .i64 y.1.2.2.c, .int .i64 y.1.2.2.d, .slice none 0 0], undef, undef, undef, undef, undef, undef, undef, undef, undef, undef, undef, undef, undef, undef, undef, undef, undef, undef, undef, undef, undef, undef, undef, undef, undef, undef, undef, undef, undef, undef, undef, undef, undef, undef, undef, undef, undef, undef, undef, undef, undef], defers := [] })
    (fun y a' => ownFrom_shut (fun _ Wr h => by obtain ⟨Bx, h1, h2, _⟩ := h; exact Nat.le_trans h1 (Nat.le_of_lt h2.lt)) (fun _ Wr Wr' h hs => by obtain ⟨Bx, h1, h2, h3, h4⟩ := h; exact ⟨Bx, h1, hs.blk h2, hs.blk h3, h4⟩)) ?assign ?body ?done ?stop
   case assign =>
    rintro l' pre ⟨⟨lk, v, cx⟩, hy⟩ Wr K hI hK
    unfold Out.enc
    gi_wp2
    obtain ⟨mo1, hI, hI2⟩ := hI
    have hb : Below Wr.heap.size Wr ((Wr.alloc (.cells #[.int .i64 lk.id, .int .i64 lk.fr, .int .i64 lk.to, .int .i64 lk.steps, .int .i64 lk.paces] 52)).alloc (.cells #[.int .i64 v, .int .i64 cx.a, .int .i64 cx.b, .int .i64 cx.c, .int .i64 cx.d, .slice none 0 0] 99)) := ((Below.refl _ _).alloc (Nat.le_refl _) _).alloc (by simp) _
    have Y := Blk.new (Wr.alloc (.cells #[.int .i64 lk.id, .int .i64 lk.fr, .int .i64 lk.to, .int .i64 lk.steps, .int .i64 lk.paces] 52)) 99 #[.int .i64 v, .int .i64 cx.a, .int .i64 cx.b, .int .i64 cx.c, .int .i64 cx.d, .slice none 0 0]
    rw [World.size_alloc] at Y
    have hsz := hI.sz
    exact hK _ _ (keepsFrom_below hb) (fromK_below hb (by omega) (by omega) (by omega)) ⟨mo1, hI.below hb, hI2⟩ ⟨Wr.heap.size, hsz, (Blk.new Wr _ _).alloc _, Y, rfl⟩
   case body =>
    rintro l' pre ⟨⟨lk, v, cx⟩, hy⟩ a' Wr hl ⟨r, hrr⟩ ⟨mo1, hI, hDR, hKO⟩ ⟨Bx, hBx, bX, bY, rfl⟩ hlen
    dsimp only at bX bY ⊢
    have hvp := (leads_ends (outs_leads hy).1 HFI.out (outs_leads hy).2).2
    have hvid := HID.out v hvp
    have hokv : okI v := okI_of (by omega) (by omega)
    have HVP := lh hvp
    have HOV := lh hokv
    have HI := lh hI
    have HDR := lh hDR
    have HKO := lh hKO
    have HBX := lh bX
    have HBY := lh bY
    have HYM := lh hy
    have s5 := hI.st.bs.cell 0
    have sl := hI.st.bs.lt
    have szx := bX.lt
    have szy := bY.lt
    have j0 := bY.cell 0
    have hL := hI.st.mapS.lookup wkTy hokv true
    cases hlk : look (put ms x.to x) v with
    | some z =>
     rw [hlk] at hL
     simp only [if_true] at hL
     have hfn : fnOf (put ms x.to x) v ≠ none := by unfold fnOf; rw [hlk]; simp
     have HFN := lh hfn
     clear hfn hlk hI hDR hKO bX bY hvp hvid hokv hrr
     gi_wp2
     have hb : Below Wr.heap.size Wr (Wr.alloc (.cells #[.int .i64 z.to, .int .i64 z.cost.a, .int .i64 z.cost.b, .int .i64 z.cost.c, .int .i64 z.cost.d, .slice z.A z.n z.cap] 99)) := (Below.refl _ _).alloc (Nat.le_refl _) _
     have hsz := HI.out.sz
     refine ⟨keepsFrom_below hb, fromK_below hb (by omega) (by omega) (by omega), mo1, HI.out.below hb, ?_, fun a b hq => HKO.out (a, b) hq⟩
     rw [List.map_append]
     exact HDR.out.skip (.inl HFN.out)
    | none =>
     rw [hlk] at hL
     simp only [if_true] at hL
     have hfn : fnOf (put ms x.to x) v = none := by unfold fnOf; rw [hlk]; rfl
     have HFN := lh hfn
     clear hfn hlk hI hDR hKO bX bY hvp hvid hokv hrr
     have HSM : Hid (Small cx ∧ Small x.cost) := lh ⟨Small.any (leads_cost (outs_leads hy).1 HFI.out HFA.out (outs_leads hy).2), Small.of_walk (HDR.out.sFirst _ _ HDR.out.here).1 HFI.out HFA.out (by have h1 := HXO.out.len; have h2 := HXO.out.short; dsimp only at h1 h2; omega)⟩
     have HN9 : Hid (x.n ≤ 9) := lh HXO.out.short
     have HX8 : Hid (x.n ≤ 8) := lh (by have h1 := HXO.out.len; have h2 := (HDR.out.sFirst _ _ HDR.out.here).short HFI.out HFA.out; dsimp only at h1; omega)
     have h67 : w1.heap.size < w6.heap.size := by have := HSZ6.out; omega
     have h64 : w4.heap.size + 1 < w6.heap.size := g2l
     have hb8 : BS + 1 < w6.heap.size := by omega
     have hw4 : w.heap.size + 1 + 1 < w4.heap.size := by have := HSZ4.out; have := HBS.out; omega
     gi_wp2
     have hbV : Below Wr.heap.size Wr (Wr.alloc (.cells #[.int .i64 0, .int .i64 0, .int .i64 0, .int .i64 0, .int .i64 0, .slice none 0 0] 99)) := (Below.refl _ _).alloc (Nat.le_refl _) _
     have HIV := lh (HI.out.below hbV)
     have HBXV := lh (HBX.out.below hbV szx)
     have HBYV := lh (HBY.out.below hbV szy)
     have HKV : Hid (KF w6.heap.size w.heap.size w4.heap.size (w4.heap.size + 1) Wr (Wr.alloc (.cells #[.int .i64 0, .int .i64 0, .int .i64 0, .int .i64 0, .int .i64 0, .slice none 0 0] 99))) := lh (by
      have hsz := HI.out.sz
      exact KF.below hbV (by omega) (by omega) (by omega))
     clear hbV
     generalize (Wr.alloc (.cells #[.int .i64 0, .int .i64 0, .int .i64 0, .int .i64 0, .int .i64 0, .slice none 0 0] 99)) = V at *
     refine wpIn_region_stepsD (by kernel_rfl) (by kernel_rfl) (fun σ : AGh × (Nat → Value) => { tmps := #[.agg #[.slice A nn c, .slice A' m d, .bool dk, .func (.func F) #[] C], .int .i64 place, .pointer (some ⟨w.heap.size, 0, none⟩), undef, .map none, .pointer (some ⟨BS, 0, none⟩), .pointer (some ⟨BS + 1, 0, none⟩), .pointer (some ⟨w1.heap.size, 0, none⟩), .bool true, .pointer (some ⟨Bx, 0, none⟩), .pointer (some ⟨Bx + 1, 0, none⟩), .pointer (some ⟨Wr.heap.size, 0, none⟩), .bool false, undef, undef, .map (some (w.heap.size + 1)), .map (some (w.heap.size + 1 + 1)), .int .i64 place, .int .i64 place, .agg #[.int .i64 place, .int .i64 0, .int .i64 0, .int .i64 0, .int .i64 0, .slice none 0 0], .map (some (w.heap.size + 1 + 1)), .tuple #[x.val, .bool true], .func (.func 103) #[] #[.pointer (some ⟨BS + 1, 0, none⟩)], .tuple #[x.val, .bool true], x.val, .bool true, .bool true, .bool false, u28, .map (some (w.heap.size + 1 + 1)), .pointer (some ⟨w1.heap.size, 0, none⟩), .int .i64 x.to, .map (some (w.heap.size + 1)), .pointer (some ⟨w1.heap.size, 0, none⟩), .int .i64 x.to, .agg #[.int .i64 x.to, .int .i64 x.cost.a, .int .i64 x.cost.b, .int .i64 x.cost.c, .int .i64 x.cost.d, .slice x.A x.n x.cap], .agg #[.slice A nn c, .slice A' m d, .bool dk, .func (.func F) #[] C], .pointer (some ⟨w1.heap.size, 0, none⟩), .int .i64 x.to, .func (.func 129) #[] #[.pointer (some ⟨w4.heap.size, 0, none⟩), .pointer (some ⟨w4.heap.size + 1, 0, none⟩)], linkV lk, .agg #[.int .i64 v, .int .i64 cx.a, .int .i64 cx.b, .int .i64 cx.c, .int .i64 cx.d, .slice none 0 0], .tuple #[zeroWk, .bool false], .map (some (w.heap.size + 1)), .pointer (some ⟨Bx + 1, 0, none⟩), .int .i64 v, .tuple #[zeroWk, .bool false], zeroWk, .bool false, .bool false, σ.2 50, σ.2 51, σ.2 52, σ.2 53, σ.2 54, σ.2 55, σ.2 56, σ.2 57, σ.2 58, σ.2 59, σ.2 60, σ.2 61, σ.2 62, σ.2 63, undef, undef, undef, undef, undef, undef, undef, undef, undef, undef, undef, undef, undef, undef, undef, undef, undef, undef, undef], defers := [] })
      (fun L σ W => (V.grownBy W (some (Bx + 1))) ∧ (Blk W (Bx + 1) 99 #[.int .i64 v, .int .i64 σ.1.co.a, .int .i64 σ.1.co.b, .int .i64 σ.1.co.c, .int .i64 σ.1.co.d, .slice σ.1.sA σ.1.sn σ.1.sc]) ∧ (L 13 = false → σ.1.co = cx) ∧ (L 13 = true → σ.1.co = addC cx x.cost) ∧ (L 15 = true → σ.1.sA = σ.1.A61 ∧ σ.1.sn = x.n + 1 ∧ σ.1.sc = σ.1.c61) ∧ (L 7 = true → L 11 = false → Own W V.heap.size 3 1 σ.1.A57 x.n σ.1.c57 (List.map (Value.int .i64) x.links)) ∧ (L 10 = true → L 11 = false → Blk W σ.1.b60 3 #[.int .i64 lk.id] ∧ V.heap.size ≤ σ.1.b60) ∧ (L 11 = true → Own W V.heap.size 3 1 σ.1.A61 (x.n + 1) σ.1.c61 (List.map (Value.int .i64) (x.links ++ [lk.id]))) ∧ (L 0 = true → σ.2 50 = .pointer (some ⟨Bx + 1, 1, none⟩)) ∧ (L 1 = true → σ.2 51 = .agg #[.int .i64 cx.a, .int .i64 cx.b, .int .i64 cx.c, .int .i64 cx.d]) ∧ (L 2 = true → σ.2 52 = .pointer (some ⟨w1.heap.size, 1, none⟩)) ∧ (L 3 = true → σ.2 53 = .agg #[.int .i64 x.cost.a, .int .i64 x.cost.b, .int .i64 x.cost.c, .int .i64 x.cost.d]) ∧ (L 4 = true → σ.2 54 = .agg #[.int .i64 (addC cx x.cost).a, .int .i64 (addC cx x.cost).b, .int .i64 (addC cx x.cost).c, .int .i64 (addC cx x.cost).d]) ∧ (L 5 = true → σ.2 55 = .pointer (some ⟨w1.heap.size, 5, none⟩)) ∧ (L 6 = true → σ.2 56 = .slice x.A x.n x.cap) ∧ (L 7 = true → σ.2 57 = .slice σ.1.A57 x.n σ.1.c57) ∧ (L 8 = true → σ.2 58 = .pointer (some ⟨Bx, 0, none⟩)) ∧ (L 9 = true → σ.2 59 = .int .i64 lk.id) ∧ (L 10 = true → σ.2 60 = .slice (some ⟨σ.1.b60, 0, none⟩) 1 1) ∧ (L 11 = true → σ.2 61 = .slice σ.1.A61 (x.n + 1) σ.1.c61) ∧ (L 12 = true → σ.2 62 = .pointer (some ⟨Bx + 1, 1, none⟩)) ∧ (L 14 = true → σ.2 63 = .pointer (some ⟨Bx + 1, 5, none⟩)))
      ((⟨cx, none, 0, 0, none, 0, 0, none, 0⟩ : AGh), fun k => undef) rfl ?_ ?_ ?_
     ·exact ⟨(grown_drew (grown_refl _ _) 1), HBYV.out, (fun _ => rfl), (fun h => by cases h), (fun h => by cases h), (fun h => by cases h), (fun h => by cases h), (fun h => by cases h), (fun h => by cases h), (fun h => by cases h), (fun h => by cases h), (fun h => by cases h), (fun h => by cases h), (fun h => by cases h), (fun h => by cases h), (fun h => by cases h), (fun h => by cases h), (fun h => by cases h), (fun h => by cases h), (fun h => by cases h), (fun h => by cases h), (fun h => by cases h)⟩
     ·refine ⟨?_, ?_, ?_, ?_, ?_, ?_, ?_, ?_, ?_, ?_, ?_, ?_, ?_, ?_, ?_, ?_, trivial⟩
      ·rintro L ⟨gh, s⟩ W hu hd hdn ⟨gW, gN, gC, gCt, gSt, gA, gB, gD, f0, f1, f2, f3, f4, f5, f6, f7, f8, f9, f10, f11, f12, f14⟩ K Q hK
       try dsimp only at gW gN gC gCt gSt gA gB gD f0 f1 f2 f3 f4 f5 f6 f7 f8 f9 f10 f11 f12 f14 ⊢
       have HF := lh (ai gW (ai gN (ai gC (ai gCt (ai gSt (ai gA (ai gB (ai gD (ai f0 (ai f1 (ai f2 (ai f3 (ai f4 (ai f5 (ai f6 (ai f7 (ai f8 (ai f9 (ai f10 (ai f11 (ai f12 f14)))))))))))))))))))))
       clear f14 f12 f11 f10 f9 f8 f7 f6 f5 f4 f3 f2 f1 f0 gD gB gA gSt gCt gC gN gW hd
       try simp only
       gi_wp2
       obtain ⟨gW, gN, gC, gCt, gSt, gA, gB, gD, f0, f1, f2, f3, f4, f5, f6, f7, f8, f9, f10, f11, f12, f14⟩ := HF.out
       exact hK (gh, (upd s 50 (.pointer (some ⟨Bx + 1, 1, none⟩)))) _ ⟨gW, gN, gC, gCt, gSt, gA, gB, gD, (fun _ => rfl), f1, f2, f3, f4, f5, f6, f7, f8, f9, f10, f11, f12, f14⟩
      ·rintro L ⟨gh, s⟩ W hu hd hdn ⟨gW, gN, gC, gCt, gSt, gA, gB, gD, f0, f1, f2, f3, f4, f5, f6, f7, f8, f9, f10, f11, f12, f14⟩ K Q hK
       try dsimp only at gW gN gC gCt gSt gA gB gD f0 f1 f2 f3 f4 f5 f6 f7 f8 f9 f10 f11 f12 f14 ⊢
       have e0 := f0 (hd.at_ 0 rfl)
       have h13 : L 13 = false := by
        cases hc : L 13 with
        | false => rfl
        | true => exact hdn.no 13 1 hc rfl hu
       have G := gN
       rw [gC h13] at G
       have c1 : W.cell? ⟨Bx + 1, 1, none⟩ = some (.int .i64 cx.a) := G.cell 1
       have c2 : W.cell? ⟨Bx + 1, 2, none⟩ = some (.int .i64 cx.b) := G.cell 2
       have c3 : W.cell? ⟨Bx + 1, 3, none⟩ = some (.int .i64 cx.c) := G.cell 3
       have c4 : W.cell? ⟨Bx + 1, 4, none⟩ = some (.int .i64 cx.d) := G.cell 4
       clear G
       have HF := lh (ai gW (ai gN (ai gC (ai gCt (ai gSt (ai gA (ai gB (ai gD (ai f0 (ai f1 (ai f2 (ai f3 (ai f4 (ai f5 (ai f6 (ai f7 (ai f8 (ai f9 (ai f10 (ai f11 (ai f12 f14)))))))))))))))))))))
       clear f14 f12 f11 f10 f9 f8 f7 f6 f5 f4 f3 f2 f1 f0 gD gB gA gSt gCt gC gN gW hd
       try simp only at e0 ⊢
       gi_wp2
       obtain ⟨gW, gN, gC, gCt, gSt, gA, gB, gD, f0, f1, f2, f3, f4, f5, f6, f7, f8, f9, f10, f11, f12, f14⟩ := HF.out
       exact hK (gh, (upd (upd s 50 (.pointer (some ⟨Bx + 1, 1, none⟩))) 51 (.agg #[.int .i64 cx.a, .int .i64 cx.b, .int .i64 cx.c, .int .i64 cx.d]))) _ ⟨gW, gN, gC, gCt, gSt, gA, gB, gD, (fun _ => rfl), (fun _ => rfl), f2, f3, f4, f5, f6, f7, f8, f9, f10, f11, f12, f14⟩
      ·rintro L ⟨gh, s⟩ W hu hd hdn ⟨gW, gN, gC, gCt, gSt, gA, gB, gD, f0, f1, f2, f3, f4, f5, f6, f7, f8, f9, f10, f11, f12, f14⟩ K Q hK
       try dsimp only at gW gN gC gCt gSt gA gB gD f0 f1 f2 f3 f4 f5 f6 f7 f8 f9 f10 f11 f12 f14 ⊢
       have HF := lh (ai gW (ai gN (ai gC (ai gCt (ai gSt (ai gA (ai gB (ai gD (ai f0 (ai f1 (ai f2 (ai f3 (ai f4 (ai f5 (ai f6 (ai f7 (ai f8 (ai f9 (ai f10 (ai f11 (ai f12 f14)))))))))))))))))))))
       clear f14 f12 f11 f10 f9 f8 f7 f6 f5 f4 f3 f2 f1 f0 gD gB gA gSt gCt gC gN gW hd
       try simp only
       gi_wp2
       obtain ⟨gW, gN, gC, gCt, gSt, gA, gB, gD, f0, f1, f2, f3, f4, f5, f6, f7, f8, f9, f10, f11, f12, f14⟩ := HF.out
       exact hK (gh, (upd s 52 (.pointer (some ⟨w1.heap.size, 1, none⟩)))) _ ⟨gW, gN, gC, gCt, gSt, gA, gB, gD, f0, f1, (fun _ => rfl), f3, f4, f5, f6, f7, f8, f9, f10, f11, f12, f14⟩
      ·rintro L ⟨gh, s⟩ W hu hd hdn ⟨gW, gN, gC, gCt, gSt, gA, gB, gD, f0, f1, f2, f3, f4, f5, f6, f7, f8, f9, f10, f11, f12, f14⟩ K Q hK
       try dsimp only at gW gN gC gCt gSt gA gB gD f0 f1 f2 f3 f4 f5 f6 f7 f8 f9 f10 f11 f12 f14 ⊢
       have e2 := f2 (hd.at_ 2 rfl)
       have G := HIV.out.b7.grown gW (by simp; omega)
       have c0 : W.cell? ⟨w1.heap.size, 0, none⟩ = some (.int .i64 x.to) := G.cell 0
       have c1 : W.cell? ⟨w1.heap.size, 1, none⟩ = some (.int .i64 x.cost.a) := G.cell 1
       have c2 : W.cell? ⟨w1.heap.size, 2, none⟩ = some (.int .i64 x.cost.b) := G.cell 2
       have c3 : W.cell? ⟨w1.heap.size, 3, none⟩ = some (.int .i64 x.cost.c) := G.cell 3
       have c4 : W.cell? ⟨w1.heap.size, 4, none⟩ = some (.int .i64 x.cost.d) := G.cell 4
       have c5 : W.cell? ⟨w1.heap.size, 5, none⟩ = some (.slice x.A x.n x.cap) := G.cell 5
       clear G
       have HF := lh (ai gW (ai gN (ai gC (ai gCt (ai gSt (ai gA (ai gB (ai gD (ai f0 (ai f1 (ai f2 (ai f3 (ai f4 (ai f5 (ai f6 (ai f7 (ai f8 (ai f9 (ai f10 (ai f11 (ai f12 f14)))))))))))))))))))))
       clear f14 f12 f11 f10 f9 f8 f7 f6 f5 f4 f3 f2 f1 f0 gD gB gA gSt gCt gC gN gW hd
       try simp only at e2 ⊢
       gi_wp2
       obtain ⟨gW, gN, gC, gCt, gSt, gA, gB, gD, f0, f1, f2, f3, f4, f5, f6, f7, f8, f9, f10, f11, f12, f14⟩ := HF.out
       exact hK (gh, (upd (upd s 52 (.pointer (some ⟨w1.heap.size, 1, none⟩))) 53 (.agg #[.int .i64 x.cost.a, .int .i64 x.cost.b, .int .i64 x.cost.c, .int .i64 x.cost.d]))) _ ⟨gW, gN, gC, gCt, gSt, gA, gB, gD, f0, f1, (fun _ => rfl), (fun _ => rfl), f4, f5, f6, f7, f8, f9, f10, f11, f12, f14⟩
      ·rintro L ⟨gh, s⟩ W hu hd hdn ⟨gW, gN, gC, gCt, gSt, gA, gB, gD, f0, f1, f2, f3, f4, f5, f6, f7, f8, f9, f10, f11, f12, f14⟩ K Q hK
       try dsimp only at gW gN gC gCt gSt gA gB gD f0 f1 f2 f3 f4 f5 f6 f7 f8 f9 f10 f11 f12 f14 ⊢
       have e1 := f1 (hd.at_ 1 rfl)
       have e3 := f3 (hd.at_ 3 rfl)
       have HF := lh (ai gW (ai gN (ai gC (ai gCt (ai gSt (ai gA (ai gB (ai gD (ai f0 (ai f1 (ai f2 (ai f3 (ai f4 (ai f5 (ai f6 (ai f7 (ai f8 (ai f9 (ai f10 (ai f11 (ai f12 f14)))))))))))))))))))))
       clear f14 f12 f11 f10 f9 f8 f7 f6 f5 f4 f3 f2 f1 f0 gD gB gA gSt gCt gC gN gW hd
       try simp only at e1 e3 ⊢
       gi_wp2
       refine ⟨trivial, (CallsIn.inRound l' (callsIn_wide.2 (plus_any cx x.cost W HSM.out.1 HSM.out.2))).mono ?_⟩
       rintro e W2 ⟨rfl, hb⟩
       gi_wp2
       obtain ⟨gW, gN, gC, gCt, gSt, gA, gB, gD, f0, f1, f2, f3, f4, f5, f6, f7, f8, f9, f10, f11, f12, f14⟩ := HF.out
       exact hK (gh, (upd (upd (upd s 51 (.agg #[.int .i64 cx.a, .int .i64 cx.b, .int .i64 cx.c, .int .i64 cx.d])) 53 (.agg #[.int .i64 x.cost.a, .int .i64 x.cost.b, .int .i64 x.cost.c, .int .i64 x.cost.d])) 54 (.agg #[.int .i64 (addC cx x.cost).a, .int .i64 (addC cx x.cost).b, .int .i64 (addC cx x.cost).c, .int .i64 (addC cx x.cost).d]))) _ ⟨(grown_below gW hb), (gN.below hb gN.lt), gC, gCt, gSt, (fun h1 h2 => (gA h1 h2).below hb (Nat.le_refl _)), (fun h1 h2 => ⟨(gB h1 h2).1.below hb (gB h1 h2).1.lt, (gB h1 h2).2⟩), (fun h1 => (gD h1).below hb (Nat.le_refl _)), f0, (fun _ => rfl), f2, (fun _ => rfl), (fun _ => rfl), f5, f6, f7, f8, f9, f10, f11, f12, f14⟩
      ·rintro L ⟨gh, s⟩ W hu hd hdn ⟨gW, gN, gC, gCt, gSt, gA, gB, gD, f0, f1, f2, f3, f4, f5, f6, f7, f8, f9, f10, f11, f12, f14⟩ K Q hK
       try dsimp only at gW gN gC gCt gSt gA gB gD f0 f1 f2 f3 f4 f5 f6 f7 f8 f9 f10 f11 f12 f14 ⊢
       have HF := lh (ai gW (ai gN (ai gC (ai gCt (ai gSt (ai gA (ai gB (ai gD (ai f0 (ai f1 (ai f2 (ai f3 (ai f4 (ai f5 (ai f6 (ai f7 (ai f8 (ai f9 (ai f10 (ai f11 (ai f12 f14)))))))))))))))))))))
       clear f14 f12 f11 f10 f9 f8 f7 f6 f5 f4 f3 f2 f1 f0 gD gB gA gSt gCt gC gN gW hd
       try simp only
       gi_wp2
       obtain ⟨gW, gN, gC, gCt, gSt, gA, gB, gD, f0, f1, f2, f3, f4, f5, f6, f7, f8, f9, f10, f11, f12, f14⟩ := HF.out
       exact hK (gh, (upd s 55 (.pointer (some ⟨w1.heap.size, 5, none⟩)))) _ ⟨gW, gN, gC, gCt, gSt, gA, gB, gD, f0, f1, f2, f3, f4, (fun _ => rfl), f6, f7, f8, f9, f10, f11, f12, f14⟩
      ·rintro L ⟨gh, s⟩ W hu hd hdn ⟨gW, gN, gC, gCt, gSt, gA, gB, gD, f0, f1, f2, f3, f4, f5, f6, f7, f8, f9, f10, f11, f12, f14⟩ K Q hK
       try dsimp only at gW gN gC gCt gSt gA gB gD f0 f1 f2 f3 f4 f5 f6 f7 f8 f9 f10 f11 f12 f14 ⊢
       have e5 := f5 (hd.at_ 5 rfl)
       have G := HIV.out.b7.grown gW (by simp; omega)
       have c0 : W.cell? ⟨w1.heap.size, 0, none⟩ = some (.int .i64 x.to) := G.cell 0
       have c1 : W.cell? ⟨w1.heap.size, 1, none⟩ = some (.int .i64 x.cost.a) := G.cell 1
       have c2 : W.cell? ⟨w1.heap.size, 2, none⟩ = some (.int .i64 x.cost.b) := G.cell 2
       have c3 : W.cell? ⟨w1.heap.size, 3, none⟩ = some (.int .i64 x.cost.c) := G.cell 3
       have c4 : W.cell? ⟨w1.heap.size, 4, none⟩ = some (.int .i64 x.cost.d) := G.cell 4
       have c5 : W.cell? ⟨w1.heap.size, 5, none⟩ = some (.slice x.A x.n x.cap) := G.cell 5
       clear G
       have HF := lh (ai gW (ai gN (ai gC (ai gCt (ai gSt (ai gA (ai gB (ai gD (ai f0 (ai f1 (ai f2 (ai f3 (ai f4 (ai f5 (ai f6 (ai f7 (ai f8 (ai f9 (ai f10 (ai f11 (ai f12 f14)))))))))))))))))))))
       clear f14 f12 f11 f10 f9 f8 f7 f6 f5 f4 f3 f2 f1 f0 gD gB gA gSt gCt gC gN gW hd
       try simp only at e5 ⊢
       gi_wp2
       obtain ⟨gW, gN, gC, gCt, gSt, gA, gB, gD, f0, f1, f2, f3, f4, f5, f6, f7, f8, f9, f10, f11, f12, f14⟩ := HF.out
       exact hK (gh, (upd (upd s 55 (.pointer (some ⟨w1.heap.size, 5, none⟩))) 56 (.slice x.A x.n x.cap))) _ ⟨gW, gN, gC, gCt, gSt, gA, gB, gD, f0, f1, f2, f3, f4, (fun _ => rfl), (fun _ => rfl), f7, f8, f9, f10, f11, f12, f14⟩
      ·rintro L ⟨gh, s⟩ W hu hd hdn ⟨gW, gN, gC, gCt, gSt, gA, gB, gD, f0, f1, f2, f3, f4, f5, f6, f7, f8, f9, f10, f11, f12, f14⟩ K Q hK
       try dsimp only at gW gN gC gCt gSt gA gB gD f0 f1 f2 f3 f4 f5 f6 f7 f8 f9 f10 f11 f12 f14 ⊢
       have e6 := f6 (hd.at_ 6 rfl)
       have HXA : Hid (IntsAt W W.heap.size x.A x.n x.links) := lh ((ints_keep HIV.out.xat (fun b cs ty fr hb hlt => (gW.block b (Array.getElem?_eq_some_iff.1 hb).1 (fun e => by cases e; omega)).trans hb)).more (by have := gW.size; have := HIV.out.b7.lt; omega))
       have HF := lh (ai gW (ai gN (ai gC (ai gCt (ai gSt (ai gA (ai gB (ai gD (ai f0 (ai f1 (ai f2 (ai f3 (ai f4 (ai f5 (ai f6 (ai f7 (ai f8 (ai f9 (ai f10 (ai f11 (ai f12 f14)))))))))))))))))))))
       clear f14 f12 f11 f10 f9 f8 f7 f6 f5 f4 f3 f2 f1 f0 gD gB gA gSt gCt gC gN gW hd
       try simp only at e6 ⊢
       gi_wp2
       refine ⟨trivial, (CallsIn.inRound l' (callsIn_wide.2 (clone_int x.A x.n x.cap x.links W HXA.out (by have := HN9.out; unfold maxLen; omega) (by have := HN9.out; omega)))).mono ?_⟩
       rintro e W2 ⟨A7, c7, rfl, hown, _, hb⟩
       gi_wp2
       obtain ⟨gW, gN, gC, gCt, gSt, gA, gB, gD, f0, f1, f2, f3, f4, f5, f6, f7, f8, f9, f10, f11, f12, f14⟩ := HF.out
       exact hK (({ gh with A57 := A7, c57 := c7 } : AGh), (upd (upd s 56 (.slice x.A x.n x.cap)) 57 (.slice A7 x.n c7))) _ ⟨(grown_below gW hb), (gN.below hb gN.lt), gC, gCt, gSt, (fun _ _ => hown.mono gW.size), (fun h1 h2 => ⟨(gB h1 h2).1.below hb (gB h1 h2).1.lt, (gB h1 h2).2⟩), (fun h1 => (hdn.no 11 7 h1 rfl hu)), f0, f1, f2, f3, f4, f5, (fun _ => rfl), (fun _ => rfl), f8, f9, f10, f11, f12, f14⟩
      ·rintro L ⟨gh, s⟩ W hu hd hdn ⟨gW, gN, gC, gCt, gSt, gA, gB, gD, f0, f1, f2, f3, f4, f5, f6, f7, f8, f9, f10, f11, f12, f14⟩ K Q hK
       try dsimp only at gW gN gC gCt gSt gA gB gD f0 f1 f2 f3 f4 f5 f6 f7 f8 f9 f10 f11 f12 f14 ⊢
       have HF := lh (ai gW (ai gN (ai gC (ai gCt (ai gSt (ai gA (ai gB (ai gD (ai f0 (ai f1 (ai f2 (ai f3 (ai f4 (ai f5 (ai f6 (ai f7 (ai f8 (ai f9 (ai f10 (ai f11 (ai f12 f14)))))))))))))))))))))
       clear f14 f12 f11 f10 f9 f8 f7 f6 f5 f4 f3 f2 f1 f0 gD gB gA gSt gCt gC gN gW hd
       try simp only
       gi_wp2
       obtain ⟨gW, gN, gC, gCt, gSt, gA, gB, gD, f0, f1, f2, f3, f4, f5, f6, f7, f8, f9, f10, f11, f12, f14⟩ := HF.out
       exact hK (gh, (upd s 58 (.pointer (some ⟨Bx, 0, none⟩)))) _ ⟨gW, gN, gC, gCt, gSt, gA, gB, gD, f0, f1, f2, f3, f4, f5, f6, f7, (fun _ => rfl), f9, f10, f11, f12, f14⟩
      ·rintro L ⟨gh, s⟩ W hu hd hdn ⟨gW, gN, gC, gCt, gSt, gA, gB, gD, f0, f1, f2, f3, f4, f5, f6, f7, f8, f9, f10, f11, f12, f14⟩ K Q hK
       try dsimp only at gW gN gC gCt gSt gA gB gD f0 f1 f2 f3 f4 f5 f6 f7 f8 f9 f10 f11 f12 f14 ⊢
       have e8 := f8 (hd.at_ 8 rfl)
       have G := HBXV.out.grown gW (by simp)
       have c0 : W.cell? ⟨Bx, 0, none⟩ = some (.int .i64 lk.id) := G.cell 0
       clear G
       have HF := lh (ai gW (ai gN (ai gC (ai gCt (ai gSt (ai gA (ai gB (ai gD (ai f0 (ai f1 (ai f2 (ai f3 (ai f4 (ai f5 (ai f6 (ai f7 (ai f8 (ai f9 (ai f10 (ai f11 (ai f12 f14)))))))))))))))))))))
       clear f14 f12 f11 f10 f9 f8 f7 f6 f5 f4 f3 f2 f1 f0 gD gB gA gSt gCt gC gN gW hd
       try simp only at e8 ⊢
       gi_wp2
       obtain ⟨gW, gN, gC, gCt, gSt, gA, gB, gD, f0, f1, f2, f3, f4, f5, f6, f7, f8, f9, f10, f11, f12, f14⟩ := HF.out
       exact hK (gh, (upd (upd s 58 (.pointer (some ⟨Bx, 0, none⟩))) 59 (.int .i64 lk.id))) _ ⟨gW, gN, gC, gCt, gSt, gA, gB, gD, f0, f1, f2, f3, f4, f5, f6, f7, (fun _ => rfl), (fun _ => rfl), f10, f11, f12, f14⟩
      ·rintro L ⟨gh, s⟩ W hu hd hdn ⟨gW, gN, gC, gCt, gSt, gA, gB, gD, f0, f1, f2, f3, f4, f5, f6, f7, f8, f9, f10, f11, f12, f14⟩ K Q hK
       try dsimp only at gW gN gC gCt gSt gA gB gD f0 f1 f2 f3 f4 f5 f6 f7 f8 f9 f10 f11 f12 f14 ⊢
       have e9 := f9 (hd.at_ 9 rfl)
       have HF := lh (ai gW (ai gN (ai gC (ai gCt (ai gSt (ai gA (ai gB (ai gD (ai f0 (ai f1 (ai f2 (ai f3 (ai f4 (ai f5 (ai f6 (ai f7 (ai f8 (ai f9 (ai f10 (ai f11 (ai f12 f14)))))))))))))))))))))
       clear f14 f12 f11 f10 f9 f8 f7 f6 f5 f4 f3 f2 f1 f0 gD gB gA gSt gCt gC gN gW hd
       try simp only at e9 ⊢
       gi_wp2
       obtain ⟨gW, gN, gC, gCt, gSt, gA, gB, gD, f0, f1, f2, f3, f4, f5, f6, f7, f8, f9, f10, f11, f12, f14⟩ := HF.out
       have hb : Below W.heap.size W (W.alloc (.cells #[.int .i64 lk.id] 3)) := (Below.refl _ _).alloc (Nat.le_refl _) _
       exact hK (({ gh with b60 := W.heap.size } : AGh), (upd (upd s 59 (.int .i64 lk.id)) 60 (.slice (some ⟨W.heap.size, 0, none⟩) 1 1))) _ ⟨(grown_below gW hb), (gN.below hb gN.lt), gC, gCt, gSt, (fun h1 h2 => (gA h1 h2).below hb (Nat.le_refl _)), (fun _ _ => ⟨Blk.new W _ _, gW.size⟩), (fun h1 => (hdn.no 11 10 h1 rfl hu)), f0, f1, f2, f3, f4, f5, f6, f7, f8, (fun _ => rfl), (fun _ => rfl), f11, f12, f14⟩
      ·rintro L ⟨gh, s⟩ W hu hd hdn ⟨gW, gN, gC, gCt, gSt, gA, gB, gD, f0, f1, f2, f3, f4, f5, f6, f7, f8, f9, f10, f11, f12, f14⟩ K Q hK
       try dsimp only at gW gN gC gCt gSt gA gB gD f0 f1 f2 f3 f4 f5 f6 f7 f8 f9 f10 f11 f12 f14 ⊢
       have e7 := f7 (hd.at_ 7 rfl)
       have e10 := f10 (hd.at_ 10 rfl)
       have HOA := lh (gA (hd.at_ 7 rfl) hu)
       have HBB := lh (gB (hd.at_ 10 rfl) hu)
       have hVW : V.heap.size ≤ W.heap.size := gW.size
       have h15 : L 15 = false := by
        cases hc : L 15 with
        | false => rfl
        | true => exact hdn.no 15 11 hc rfl hu
       have HF := lh (ai gW (ai gN (ai gC (ai gCt (ai gSt (ai gA (ai gB (ai gD (ai f0 (ai f1 (ai f2 (ai f3 (ai f4 (ai f5 (ai f6 (ai f7 (ai f8 (ai f9 (ai f10 (ai f11 (ai f12 f14)))))))))))))))))))))
       clear f14 f12 f11 f10 f9 f8 f7 f6 f5 f4 f3 f2 f1 f0 gD gB gA gSt gCt gC gN gW hd
       try simp only at e7 e10 ⊢
       refine wpListIn_append_any rfl (.tmp 57) (.tmp 60) (by rfl) elem_int e7 HOA.out e10 (one_int (x := lk.id) HBB.out.1.lt (HBB.out.1.cell 0)) (ints_one _) (by have := HN9.out; unfold maxLen; omega) (by have := HN9.out; omega) hVW ?_
       rintro A8 c8 W2 hown hg hA8
       have hbV : Below V.heap.size W W2 := below_of_grown hg (fun k hk => own_row HOA.out hk) hVW
       gi_wp2
       obtain ⟨gW, gN, gC, gCt, gSt, gA, gB, gD, f0, f1, f2, f3, f4, f5, f6, f7, f8, f9, f10, f11, f12, f14⟩ := HF.out
       exact hK (({ gh with A61 := A8, c61 := c8 } : AGh), (upd (upd (upd s 57 (.slice gh.A57 x.n gh.c57)) 60 (.slice (some ⟨gh.b60, 0, none⟩) 1 1)) 61 (.slice A8 (x.n + 1) c8))) _ ⟨(grown_belowB gW hbV), (gN.below hbV HBYV.out.lt), gC, gCt, (fun h => absurd (h15.symm.trans h) (by decide)), (fun _ h => by cases h), (fun _ h => by cases h), (fun _ => by simpa using hown), f0, f1, f2, f3, f4, f5, f6, (fun _ => rfl), f8, f9, (fun _ => rfl), (fun _ => rfl), f12, f14⟩
      ·rintro L ⟨gh, s⟩ W hu hd hdn ⟨gW, gN, gC, gCt, gSt, gA, gB, gD, f0, f1, f2, f3, f4, f5, f6, f7, f8, f9, f10, f11, f12, f14⟩ K Q hK
       try dsimp only at gW gN gC gCt gSt gA gB gD f0 f1 f2 f3 f4 f5 f6 f7 f8 f9 f10 f11 f12 f14 ⊢
       have HF := lh (ai gW (ai gN (ai gC (ai gCt (ai gSt (ai gA (ai gB (ai gD (ai f0 (ai f1 (ai f2 (ai f3 (ai f4 (ai f5 (ai f6 (ai f7 (ai f8 (ai f9 (ai f10 (ai f11 (ai f12 f14)))))))))))))))))))))
       clear f14 f12 f11 f10 f9 f8 f7 f6 f5 f4 f3 f2 f1 f0 gD gB gA gSt gCt gC gN gW hd
       try simp only
       gi_wp2
       obtain ⟨gW, gN, gC, gCt, gSt, gA, gB, gD, f0, f1, f2, f3, f4, f5, f6, f7, f8, f9, f10, f11, f12, f14⟩ := HF.out
       exact hK (gh, (upd s 62 (.pointer (some ⟨Bx + 1, 1, none⟩)))) _ ⟨gW, gN, gC, gCt, gSt, gA, gB, gD, f0, f1, f2, f3, f4, f5, f6, f7, f8, f9, f10, f11, (fun _ => rfl), f14⟩
      ·rintro L ⟨gh, s⟩ W hu hd hdn ⟨gW, gN, gC, gCt, gSt, gA, gB, gD, f0, f1, f2, f3, f4, f5, f6, f7, f8, f9, f10, f11, f12, f14⟩ K Q hK
       try dsimp only at gW gN gC gCt gSt gA gB gD f0 f1 f2 f3 f4 f5 f6 f7 f8 f9 f10 f11 f12 f14 ⊢
       have e12 := f12 (hd.at_ 12 rfl)
       have e4 := f4 (hd.at_ 4 rfl)
       have h11 := hd.at_ 11 rfl
       have q1 := gN.cell 1
       have q2 := gN.cell 2
       have q3 := gN.cell 3
       have q4 := gN.cell 4
       have z1 := gN.frozen 1
       have z2 := gN.frozen 2
       have z3 := gN.frozen 3
       have z4 := gN.frozen 4
       have HF := lh (ai gW (ai gN (ai gC (ai gCt (ai gSt (ai gA (ai gB (ai gD (ai f0 (ai f1 (ai f2 (ai f3 (ai f4 (ai f5 (ai f6 (ai f7 (ai f8 (ai f9 (ai f10 (ai f11 (ai f12 f14)))))))))))))))))))))
       clear f14 f12 f11 f10 f9 f8 f7 f6 f5 f4 f3 f2 f1 f0 gD gB gA gSt gCt gC gN gW hd
       try simp only at e12 e4 ⊢
       gi_wp2
       obtain ⟨gW, gN, gC, gCt, gSt, gA, gB, gD, f0, f1, f2, f3, f4, f5, f6, f7, f8, f9, f10, f11, f12, f14⟩ := HF.out
       have hg4 : W.grownBy _ (some (Bx + 1)) := grown_setCell (grown_setCell (grown_setCell (grown_setCell (grown_refl W (some (Bx + 1))) (p := ⟨Bx + 1, 1, none⟩) (.inl rfl) (.int .i64 (addC cx x.cost).a)) (p := ⟨Bx + 1, 2, none⟩) (.inl rfl) (.int .i64 (addC cx x.cost).b)) (p := ⟨Bx + 1, 3, none⟩) (.inl rfl) (.int .i64 (addC cx x.cost).c)) (p := ⟨Bx + 1, 4, none⟩) (.inl rfl) (.int .i64 (addC cx x.cost).d)
       exact hK (({ gh with co := addC cx x.cost } : AGh), (upd (upd s 62 (.pointer (some ⟨Bx + 1, 1, none⟩))) 54 (.agg #[.int .i64 (addC cx x.cost).a, .int .i64 (addC cx x.cost).b, .int .i64 (addC cx x.cost).c, .int .i64 (addC cx x.cost).d]))) _ ⟨(grown_trans gW hg4), (((((gN.set_ 1 _).set_ 2 _).set_ 3 _).set_ 4 _)), (fun h => by cases h), (fun _ => rfl), gSt, (fun _ h => absurd (h11.symm.trans h) (by decide)), (fun _ h => absurd (h11.symm.trans h) (by decide)), (fun h1 => (gD h1).grown hg4 (fun a ha e => by have h2 := ((gD h1).lt ha).1; have h3 := HBYV.out.lt; have h4 := Option.some.inj e; omega)), f0, f1, f2, f3, (fun _ => rfl), f5, f6, f7, f8, f9, f10, f11, (fun _ => rfl), f14⟩
      ·rintro L ⟨gh, s⟩ W hu hd hdn ⟨gW, gN, gC, gCt, gSt, gA, gB, gD, f0, f1, f2, f3, f4, f5, f6, f7, f8, f9, f10, f11, f12, f14⟩ K Q hK
       try dsimp only at gW gN gC gCt gSt gA gB gD f0 f1 f2 f3 f4 f5 f6 f7 f8 f9 f10 f11 f12 f14 ⊢
       have HF := lh (ai gW (ai gN (ai gC (ai gCt (ai gSt (ai gA (ai gB (ai gD (ai f0 (ai f1 (ai f2 (ai f3 (ai f4 (ai f5 (ai f6 (ai f7 (ai f8 (ai f9 (ai f10 (ai f11 (ai f12 f14)))))))))))))))))))))
       clear f14 f12 f11 f10 f9 f8 f7 f6 f5 f4 f3 f2 f1 f0 gD gB gA gSt gCt gC gN gW hd
       try simp only
       gi_wp2
       obtain ⟨gW, gN, gC, gCt, gSt, gA, gB, gD, f0, f1, f2, f3, f4, f5, f6, f7, f8, f9, f10, f11, f12, f14⟩ := HF.out
       exact hK (gh, (upd s 63 (.pointer (some ⟨Bx + 1, 5, none⟩)))) _ ⟨gW, gN, gC, gCt, gSt, gA, gB, gD, f0, f1, f2, f3, f4, f5, f6, f7, f8, f9, f10, f11, f12, (fun _ => rfl)⟩
      ·rintro L ⟨gh, s⟩ W hu hd hdn ⟨gW, gN, gC, gCt, gSt, gA, gB, gD, f0, f1, f2, f3, f4, f5, f6, f7, f8, f9, f10, f11, f12, f14⟩ K Q hK
       try dsimp only at gW gN gC gCt gSt gA gB gD f0 f1 f2 f3 f4 f5 f6 f7 f8 f9 f10 f11 f12 f14 ⊢
       have e14 := f14 (hd.at_ 14 rfl)
       have e11 := f11 (hd.at_ 11 rfl)
       have h11 := hd.at_ 11 rfl
       have q5 := gN.cell 5
       have z5 := gN.frozen 5
       have HF := lh (ai gW (ai gN (ai gC (ai gCt (ai gSt (ai gA (ai gB (ai gD (ai f0 (ai f1 (ai f2 (ai f3 (ai f4 (ai f5 (ai f6 (ai f7 (ai f8 (ai f9 (ai f10 (ai f11 (ai f12 f14)))))))))))))))))))))
       clear f14 f12 f11 f10 f9 f8 f7 f6 f5 f4 f3 f2 f1 f0 gD gB gA gSt gCt gC gN gW hd
       try simp only at e14 e11 ⊢
       gi_wp2
       obtain ⟨gW, gN, gC, gCt, gSt, gA, gB, gD, f0, f1, f2, f3, f4, f5, f6, f7, f8, f9, f10, f11, f12, f14⟩ := HF.out
       have hg4 : W.grownBy _ (some (Bx + 1)) := grown_setCell (grown_refl W (some (Bx + 1))) (p := ⟨Bx + 1, 5, none⟩) (.inl rfl) (.slice gh.A61 (x.n + 1) gh.c61)
       exact hK (({ gh with sA := gh.A61, sn := x.n + 1, sc := gh.c61 } : AGh), (upd (upd s 63 (.pointer (some ⟨Bx + 1, 5, none⟩))) 61 (.slice gh.A61 (x.n + 1) gh.c61))) _ ⟨(grown_trans gW hg4), ((gN.set_ 5 _)), gC, gCt, (fun _ => ⟨rfl, rfl, rfl⟩), (fun _ h => absurd (h11.symm.trans h) (by decide)), (fun _ h => absurd (h11.symm.trans h) (by decide)), (fun h1 => (gD h1).grown hg4 (fun a ha e => by have h2 := ((gD h1).lt ha).1; have h3 := HBYV.out.lt; have h4 := Option.some.inj e; omega)), f0, f1, f2, f3, f4, f5, f6, f7, f8, f9, f10, (fun _ => rfl), f12, (fun _ => rfl)⟩
     ·rintro L ⟨gh, s⟩ W hall ⟨gW, gN, gC, gCt, gSt, gA, gB, gD, f0, f1, f2, f3, f4, f5, f6, f7, f8, f9, f10, f11, f12, f14⟩
      have hco := gCt (hall 13 (by decide))
      have hsl := gSt (hall 15 (by decide))
      have hD := gD (hall 11 (by decide))
      have hN := gN
      rw [hco, hsl.1, hsl.2.1, hsl.2.2] at hN
      clear hco hsl gC gCt gSt gA gB gD gN hall f0 f1 f2 f3 f4 f5 f6 f7 f8 f9 f10 f11 f12 f14
      have HNN := lh hN
      have HDD := lh hD
      have HGW := lh gW
      clear hN hD gW
      obtain ⟨A9, hA9⟩ : ∃ a, gh.A61 = a := ⟨_, rfl⟩
      obtain ⟨c9, hc9⟩ : ∃ a, gh.c61 = a := ⟨_, rfl⟩
      rw [hA9, hc9] at HNN HDD
      clear hA9 hc9
      simp only
      have HKW := lh (HKV.out.trans (KF.box HGW.out HBYV.out (by omega) (by omega) (by omega) : KF w6.heap.size w.heap.size w4.heap.size (w4.heap.size + 1) V W))
      have HIW := lh (HIV.out.box HGW.out HBYV.out (by omega) (by omega) (by omega))
      have HNW : Hid (WkOk W (v, ⟨v, addC cx x.cost, x.links ++ [lk.id], A9, x.n + 1, c9⟩)) := lh (WkOk.new HDD.out HXO.out.len HX8.out HOV.out)
      have o1 := HIW.out.st.bo.cell 0
      have ol := HIW.out.st.bo.lt
      have k0 := HNN.out.cell 0
      have nl := HNN.out.lt
      have hL2 := HIW.out.st.mapO.lookup wkTy HOV.out true
      cases hlk2 : look mo1 v with
      | none =>
       rw [hlk2] at hL2
       simp only [if_true] at hL2
       have hfo : fnOf mo1 v = none := by unfold fnOf; rw [hlk2]; rfl
       have HFO2 := lh hfo
       clear hlk2 hfo
       have hb1 : Below W.heap.size W (W.alloc (.cells #[.int .i64 0, .int .i64 0, .int .i64 0, .int .i64 0, .int .i64 0, .slice none 0 0] 99)) := (Below.refl _ _).alloc (Nat.le_refl _) _
       have HI2 := lh (HIW.out.below hb1)
       have HN2 := lh (HNN.out.below hb1 HNN.out.lt)
       have HK2 := lh (HKW.out.trans (KF.below hb1 (by have := HIW.out.sz; omega) (by have := HIW.out.sz; omega) (by have := HIW.out.sz; omega)))
       have HNW2 := lh (HNW.out.below hb1)
       clear hb1
       obtain ⟨w9, hup2, hm9, hg9, hs9⟩ := HI2.out.st.mapO.update (P := Tryz.prog) wkTy HOV.out (⟨v, addC cx x.cost, x.links ++ [lk.id], A9, x.n + 1, c9⟩ : Wk)
       have HI9 := lh (HI2.out.setO hg9 hm9 (fun q hq => by
        rcases mem_put hq with rfl | hq
        ·exact HNW2.out
        ·exact HI2.out.st.oko q hq.1))
       have HK9 := lh (HK2.out.trans (KF.map hg9 (by omega) (by omega) (by have := HI2.out.sz; omega) (by have := HI2.out.sz; omega) (by have := HI2.out.sz; omega) (by omega) (by omega)))
       clear hm9 hg9 hs9
       have p0 := HN2.out.cell 0
       have p1 := HN2.out.cell 1
       have p2 := HN2.out.cell 2
       have p3 := HN2.out.cell 3
       have p4 := HN2.out.cell 4
       have p5 := HN2.out.cell 5
       have b2 := HI2.out.st.bo.cell 0
       gi_wp2
       refine ⟨trivial, ?_⟩
       gi_wp2
       refine ⟨HK9.out.1, HK9.out.2, _, HI9.out, ?_, ?_⟩
       ·rw [List.map_append, fnOf_put mo1 v, addC_comm cx x.cost]
        exact HDR.out.take HYM.out HFN.out (fun c' l' h => by rw [HFO2.out] at h; cases h)
       ·intro q hq
        rcases mem_put hq with hq | hq
        ·cases hq; exact HVP.out
        ·exact HKO.out _ hq.1
      | some z =>
       rw [hlk2] at hL2
       simp only [if_true] at hL2
       have hzm := look_mem hlk2
       have hfo : fnOf mo1 v = some (z.cost, z.links) := by unfold fnOf; rw [hlk2]; rfl
       have HFO2 := lh hfo
       have HZM := lh hzm
       clear hlk2 hfo hzm
       have hb1 : Below W.heap.size W (W.alloc (.cells #[.int .i64 z.to, .int .i64 z.cost.a, .int .i64 z.cost.b, .int .i64 z.cost.c, .int .i64 z.cost.d, .slice z.A z.n z.cap] 99)) := (Below.refl _ _).alloc (Nat.le_refl _) _
       have HI2 := lh (HIW.out.below hb1)
       have HN2 := lh (HNN.out.below hb1 HNN.out.lt)
       have HK2 := lh (HKW.out.trans (KF.below hb1 (by have := HIW.out.sz; omega) (by have := HIW.out.sz; omega) (by have := HIW.out.sz; omega)))
       have HNW2 := lh (HNW.out.below hb1)
       have HZ2 := lh ((HIW.out.st.oko _ HZM.out).below hb1)
       clear hb1
       obtain ⟨cv, hcv⟩ : ∃ cv, cmpW (addC cx x.cost) (x.links ++ [lk.id]) z.cost z.links = cv := ⟨_, rfl⟩
       have hcall := before_any (⟨v, addC cx x.cost, x.links ++ [lk.id], A9, x.n + 1, c9⟩ : Wk) z _ HNW2.out.at_ HZ2.out.at_ (Nat.le_trans HNW2.out.short (by unfold maxLen; omega)) (Nat.le_trans HZ2.out.short (by unfold maxLen; omega))
       dsimp only at hcall
       rw [hcv] at hcall
       have HC := lh hcall
       have HCV := lh hcv
       clear hcall hcv
       have p0 := HN2.out.cell 0
       have p1 := HN2.out.cell 1
       have p2 := HN2.out.cell 2
       have p3 := HN2.out.cell 3
       have p4 := HN2.out.cell 4
       have p5 := HN2.out.cell 5
       gi_wp2
       refine ⟨trivial, (CallsIn.inRound l' (callsIn_wide.2 HC.out)).mono ?_⟩
       rintro e W7 ⟨rfl, hb7⟩
       have HI7 := lh (HI2.out.below hb7)
       have HN7 := lh (HN2.out.below hb7 HN2.out.lt)
       have HK7 := lh (HK2.out.trans (KF.below hb7 (by have := HI2.out.sz; omega) (by have := HI2.out.sz; omega) (by have := HI2.out.sz; omega)))
       have HNW7 := lh (HNW2.out.below hb7)
       clear hb7 p0 p1 p2 p3 p4 p5 o1 k0 hL2
       by_cases hlt : cv < 0
       ·obtain ⟨w9, hup2, hm9, hg9, hs9⟩ := HI7.out.st.mapO.update (P := Tryz.prog) wkTy HOV.out (⟨v, addC cx x.cost, x.links ++ [lk.id], A9, x.n + 1, c9⟩ : Wk)
        have HI9 := lh (HI7.out.setO hg9 hm9 (fun q hq => by
         rcases mem_put hq with rfl | hq
         ·exact HNW7.out
         ·exact HI7.out.st.oko q hq.1))
        have HK9 := lh (HK7.out.trans (KF.map hg9 (by omega) (by omega) (by have := HI7.out.sz; omega) (by have := HI7.out.sz; omega) (by have := HI7.out.sz; omega) (by omega) (by omega)))
        clear hm9 hg9 hs9
        have p0 := HN7.out.cell 0
        have p1 := HN7.out.cell 1
        have p2 := HN7.out.cell 2
        have p3 := HN7.out.cell 3
        have p4 := HN7.out.cell 4
        have p5 := HN7.out.cell 5
        have b2 := HI7.out.st.bo.cell 0
        gi_wp2
        refine ⟨HK9.out.1, HK9.out.2, _, HI9.out, ?_, ?_⟩
        ·rw [List.map_append, fnOf_put mo1 v, addC_comm cx x.cost]
         exact HDR.out.take HYM.out HFN.out (fun c' l' h => by
          rw [HFO2.out] at h
          cases h
          have h1 := HCV.out
          rw [cmpW_key, addC_comm cx x.cost] at h1
          dsimp only
          omega)
        ·intro q hq
         rcases mem_put hq with hq | hq
         ·cases hq; exact HVP.out
         ·exact HKO.out _ hq.1
       ·gi_wp2
        refine ⟨HK7.out.1, HK7.out.2, mo1, HI7.out, ?_, fun q hq => HKO.out q hq⟩
        rw [List.map_append]
        refine HDR.out.skip (.inr ⟨z.cost, z.links, HFO2.out, ?_⟩)
        have h1 := HCV.out
        rw [cmpW_key, addC_comm cx x.cost] at h1
        have h2 := cmpL_swap (key (addC x.cost cx) (x.links ++ [lk.id])) (key z.cost z.links)
        dsimp only
        omega
   case done =>
    rintro D ys Wr hD rfl ⟨mo1, hI, hDR, hKO⟩ hK
    gi_wp2
    have hno : fnOf ms x.to = none := HS.out.2.2.1.disj x.to (by rw [fnOf_mem (MapIs.nodup wkTy HS.out.1.mapO) HX.out]; simp)
    have hln : (put ms x.to x).length = ms.length + 1 := by
     unfold put
     rw [if_neg]
     ·simp
     ·intro h
      obtain ⟨q, hq, he⟩ := List.any_eq_true.1 h
      have hq' : (x.to, q.2) ∈ ms := by have e : q.1 = x.to := by simpa using he
                                        rw [← e]; exact hq
      rw [fnOf_mem (MapIs.nodup wkTy HS.out.1.mapS) hq'] at hno
      cases hno
    have hkS : ∀ q ∈ put ms x.to x, q.1 ∈ t.places := fun q hq => by
     rcases mem_put hq with rfl | hq
     ·exact HXP.out
     ·exact HS.out.2.2.2.1 q hq.1
    have h9 := keys_le hI.st.mapS hkS HFI.out
    refine ⟨⟨put ms x.to x, mo1, _, _, _, _, _, _, _, _, _, _, _, _, _, _, _, _, _, _, _, _, _, _, lh ⟨hI.st, hI.marks.more (Nat.le_trans hws hD) hK (fun dd hd r hr => Nat.lt_of_lt_of_le (hdl dd hd r hr) hD) #[], hDR.leave (fun y hy => List.mem_map.2 ⟨⟨y, hy⟩, by unfold allOut; simp, rfl⟩), hkS, hKO⟩, rfl⟩, ?_⟩
    rw [mapSize_eq hI.st.mapS, mapSize_eq HS.out.1.mapS, hln]
    omega
   case stop =>
    rintro D cd pre Wr _ _ h _
    exact h.elim
end
section
open Go.RowKit
def SeqAt {α : Type} (F : Fence) (n : Nat) (P : Program) (g : Nat) (lb : Array Value) (encs : α → Array Value) (At : α → World → Prop) (Kp : World → World → Prop) (S : List α → Prop) (w : World) : Prop :=
 ∀ (l : Nat) (J : List α → World → Prop) (W : World), Below w.heap.size w W → (∀ s A B, J s A → Below A.heap.size A B → J s B) →
  (∀ pre x W1, J pre W1 → At x W1 → YieldAt F (n - 1) P l (encs x) W1 fun e W' => e = .returned (.bool true) ∧ J (pre ++ [x]) W' ∧ Kp W1 W') →
  J [] W → CallsIn F n P g (#[.func (.yield l) #[] #[]] ++ lb) W fun e W' => (∃ v, e = .returned v) ∧ ∃ xs, S xs ∧ J xs W'
theorem wpIn_rangeAt {α : Type} {F : Fence} {n : Nat} {P : Program} {g : Operand} {ps : Array Tmp} {assign body : Code} {Q : Exit → Act → World → Prop} {a : Act} {w : World}
  (hro : F.round = none) (h1 : 1 ≤ n) {gf : Nat} {lb : Array Value} (hg : a.eval g = .func (.func gf) #[] lb) (hFg : F.fn gf) (eg : ∀ args w, (callFunc gf args).run P w = .ok (.enter gf args) w)
  {encs : α → Array Value} {At : α → World → Prop} {Kp : World → World → Prop} {S : List α → Prop} (hseq : SeqAt F (n - 1) P gf lb encs At Kp S w)
  (hKt : ∀ {A B C : World}, Kp A B → Kp B C → Kp A C) (hKb : ∀ (W : World) (l : Nat) (o o' : Obj), w.heap.size ≤ l → W.heap[l]? = some o → o.isCells = false → o.isWalk = false → Kp W (W.putObj l o')) (hps : ∀ x, (encs x).size = ps.size)
  (I : List α → World → Prop) (hI : OwnFrom w.heap.size I) (hIB : ∀ s A B, I s A → Below A.heap.size A B → I s B) (h0 : I [] w) (Ax : α → Act → World → Prop) (hAx : ∀ x a', OwnFrom w.heap.size (fun (_ : Unit) W => Ax x a' W))
  (hassign : ∀ (l : Nat) (pre : List α) (x : α) (W : World) (K : Act → World → Prop), I pre W → At x W → (∀ a' W', KeepsFrom w.heap.size W W' → Kp W W' → I pre W' → Ax x a' W' → K a' W') →
   assign.wpIn (F.inRound l) (n - 1 - 1) P (Exit.then K (fun _ _ _ => False)) { tmps := (ps.zip (encs x)).foldl (fun t (p, v) => t.setIfInBounds p v) a.tmps, defers := [] } W)
  (hbody : ∀ (l : Nat) (pre : List α) (x : α) (a' : Act) (W : World), I pre W → Ax x a' W → body.wpIn (F.inRound l) (n - 1 - 1) P (fun e _ W3 => e = .normal ∧ KeepsFrom w.heap.size W W3 ∧ Kp W W3 ∧ I (pre ++ [x]) W3) a' W)
  (hdone : ∀ (D : Nat) (xs : List α) (W : World), w.heap.size ≤ D → S xs → I xs W → W.heap[D]? = some (.deferred (some [])) → Q .normal { a with defers := { target := .collected D, args := #[] } :: a.defers } W) :
  (Code.rangeFunc g ps assign body).wpIn F n P Q a w := by
 refine wpIn_rangeFunc fun fn hfn => ?_
 rw [hro]
 obtain ⟨rec, hrec⟩ : ∃ rec : LoopState → Loop, rec = fun st => { state := st, pending := none, fn, tmps := a.tmps, params := ps, assign, body, defers := w.heap.size } := ⟨_, rfl⟩
 have e1 : ((w.alloc (.deferred (some []))).alloc (.loop (rec .ready))).heap[w.heap.size + 1]? = some (.loop (rec .ready)) := by
  have h := World.alloc_heap_new (w.alloc (.deferred (some []))) (.loop (rec .ready))
  rwa [World.size_alloc] at h
 have e0 : ((w.alloc (.deferred (some []))).alloc (.loop (rec .ready))).heap[w.heap.size]? = some (.deferred (some [])) :=
  (Below.heap_alloc _ _ _ (by simp)).trans (World.alloc_heap_new w _)
 have i1 := hI.alloc (.loop (rec .ready)) (hI.alloc (.deferred (some [])) h0)
 have b1 : Below w.heap.size w ((w.alloc (.deferred (some []))).alloc (.loop (rec .ready))) := ((Below.refl _ w).alloc (Nat.le_refl _) _).alloc (by simp) _
 have z1 : ((w.alloc (.deferred (some []))).alloc (.loop (rec .ready))).heap.size = w.heap.size + 1 + 1 := by simp
 have en : (Instr.enterLoop fn a.tmps ps assign body none).run P w = .ok (w.heap.size + 1, [{ target := .collected w.heap.size, args := #[] }]) ((w.alloc (.deferred (some []))).alloc (.loop (rec .ready))) := by
  rw [hrec]
  exact run_enterLoop_outer _ _ _ _ _
 generalize (w.alloc (.deferred (some []))).alloc (.loop (rec .ready)) = W0 at *
 refine ⟨w.heap.size + 1, [{ target := .collected w.heap.size, args := #[] }], W0, { target := .fn (.func gf) lb, args := #[.func (.yield (w.heap.size + 1)) #[] #[]] }, W0, gf,
  #[.func (.yield (w.heap.size + 1)) #[] #[]] ++ lb, W0, en, ?_, ?_, ?_, fun _ => h1, ?_⟩
 ·simp only [resolve, hg]
  simp [go_sem]
 ·intro f hf
  simp [Target.leads] at hf
  subst hf
  exact hFg
 ·simp [invoke, go_sem, eg]
 ·refine (hseq (w.heap.size + 1) (fun pre W => I pre W ∧ W.heap[w.heap.size + 1]? = some (.loop (rec .ready)) ∧ W.heap[w.heap.size]? = some (.deferred (some []))) W0 b1
   (fun s A B hs hb => ⟨hIB s A B hs.1 hb, (hb.block _ (Array.getElem?_eq_some_iff.1 hs.2.1).1).trans hs.2.1, (hb.block _ (Array.getElem?_eq_some_iff.1 hs.2.2).1).trans hs.2.2⟩)
   ?_ ⟨i1, e1, e0⟩).mono ?_
  ·rintro pre x W ⟨hi, hl, hk⟩ hat
   have hy := run_yield (P := P) (args := encs x) hl (by rw [hrec]; exact hps x)
   rw [hrec] at hy
   refine ⟨fn, _, assign, body, hy, roundIn_of_wpIn hfn (hassign _ pre x W _ hi hat fun a' V kf kp hiV hax => ?_)⟩
   have lV := kf.same _ _ (Nat.le_succ _) hl rfl
   have kV := kf.same _ _ (Nat.le_refl _) hk rfl
   have ltV := (Array.getElem?_eq_some_iff.1 lV).1
   refine ⟨_, run_beginRound lV (by rw [hrec]), ?_⟩
   have lU : (V.putObj (w.heap.size + 1) (.loop { rec .ready with state := .busy })).heap[w.heap.size + 1]? = some (.loop { rec .ready with state := .busy }) := World.putObj_heap_same ltV
   have kU : (V.putObj (w.heap.size + 1) (.loop { rec .ready with state := .busy })).heap[w.heap.size]? = some (.deferred (some [])) := (World.putObj_heap_other (by omega)).trans kV
   refine wpIn_mono (hbody _ pre x a' _ (hI.putObj _ hiV (Nat.le_succ _) lV rfl) ((hAx x a').putObj (s := ()) _ hax (Nat.le_succ _) lV rfl)) ?_
   rintro e a3 W3 ⟨rfl, kf3, kp3, hi3⟩
   have l3 := kf3.same _ _ (Nat.le_succ _) lU rfl
   have k3 := kf3.same _ _ (Nat.le_refl _) kU rfl
   have er := run_endRound (P := P) none l3
   refine ⟨_, _, er, rfl, ⟨hI.putObj _ hi3 (Nat.le_succ _) l3 rfl, ?_, (World.putObj_heap_other (by omega)).trans k3⟩, hKt kp (hKt (hKt (hKb _ _ _ _ (Nat.le_succ _) lV rfl rfl) kp3) (hKb _ _ _ _ (Nat.le_succ _) l3 rfl rfl))⟩
   rw [World.putObj_heap_same (Array.getElem?_eq_some_iff.1 l3).1, hrec]
   rfl
  ·rintro e W2 ⟨⟨v, rfl⟩, xs, hS, hi, hl, hk⟩
   have el := run_endLoop (P := P) hl (by rw [hrec]; simp)
   rw [hrec] at el
   exact ⟨none, _, el, hdone _ xs _ (Nat.le_refl _) hS (hI.putObj _ hi (Nat.le_succ _) hl rfl) ((World.putObj_heap_other (by omega)).trans hk)⟩
end
section
open Go.RowKit Go.Shelf
attribute [local go_sem] Oper.semAt_some
def KpR (n0 n1 : Nat) (W W' : World) : Prop := W.heap.size ≤ W'.heap.size ∧ ∀ (k : Nat) (o : Obj), (k < n0 ∨ n1 ≤ k) → W.heap[k]? = some o → (o.isCells = true ∨ o.isWalk = true) → W'.heap[k]? = some o
theorem KpR.trans {n0 n1 : Nat} {A B C : World} (h : KpR n0 n1 A B) (k : KpR n0 n1 B C) : KpR n0 n1 A C := ⟨Nat.le_trans h.1 k.1, fun i o hi ho hc => k.2 i o hi (h.2 i o hi ho hc) hc⟩
theorem KpR.of_below {n0 n1 : Nat} {A B : World} (h : Below A.heap.size A B) : KpR n0 n1 A B := ⟨h.size, fun k o _ ho _ => (h.block k (Array.getElem?_eq_some_iff.1 ho).1).trans ho⟩
theorem KpR.put {n0 n1 : Nat} (W : World) (l : Nat) (o o' : Obj) (h : W.heap[l]? = some o) (hc : o.isCells = false) (hw : o.isWalk = false) : KpR n0 n1 W (W.putObj l o') :=
 ⟨by simp, fun k o2 _ ho hk => (World.putObj_heap_other (fun e => by
  subst e
  rw [h] at ho
  cases ho
  rw [hc, hw] at hk
  rcases hk with hk | hk <;> cases hk)).trans ho⟩
theorem KpR.setCell {n0 n1 : Nat} (W : World) (p : Addr) (v : Value) (h0 : n0 ≤ p.block) (h1 : p.block < n1) : KpR n0 n1 W (W.setCell p v) :=
 ⟨by simp, fun k o hk ho _ => (Below.heap_setCell W p v k (by omega)).trans ho⟩
theorem KpR.blk {n0 n1 g : Nat} {W W' : World} {t : TypeId} {cs : Array Value} (h : KpR n0 n1 W W') (hg : g < n0 ∨ n1 ≤ g) (b : Blk W g t cs) : Blk W' g t cs := h.2 g _ hg b (.inl rfl)
theorem shut_ints {B : Nat} {W W' : World} {A : Option Addr} {n : Nat} {l : List Int} (h : IntsAt W W.heap.size A n l) (hs : Shut B W W') : IntsAt W' W'.heap.size A n l :=
 (ints_keep h (fun b cs ty fr hb _ => hs.cells _ _ _ _ hb)).more hs.below.size
abbrev zeroRd : Rd := ⟨[], (0, 0), none, 0, 0⟩
def FirstROut (w : World) (S : List Rd → Prop) (e : Ending) (w' : World) : Prop :=
 ∃ xs, S xs ∧ Below w.heap.size w w' ∧ ∃ b : Option Rd, (xs.map Rd.rnd).foldl stepC none = b.map Rd.rnd ∧ e = .returned (.tuple #[(b.getD zeroRd).val, .bool b.isSome]) ∧ ∀ x, b = some x → x.at_ w' ∧ ∀ a, x.A = some a → w.heap.size + 4 ≤ a.block
structure FrSt (w : World) (b : Option Rd) (S : Nat) (W : World) : Prop where
 bel : Below w.heap.size w W
 ord : Blk W w.heap.size 146 #[.func (.func 83) #[] #[]]
 res : Blk W (w.heap.size + 1) 131 #[.slice none 0 0, .int .i64 0, .int .i64 0]
 best : Blk W (w.heap.size + 1 + 1) 131 (b.getD zeroRd).cells
 fnd : Blk W (w.heap.size + 1 + 1 + 1) 4 #[.bool b.isSome]
 sz : S ≤ W.heap.size
 at_ : ∀ x, b = some x → x.at_ W
 safe : ∀ x, b = some x → ∀ a, x.A = some a → S ≤ a.block
section
variable {w W W' : World} {b : Option Rd} {S : Nat}
theorem FrSt.below (h : FrSt w b S W) (hb : Below W.heap.size W W') : FrSt w b S W' :=
 ⟨h.bel.trans (hb.mono h.bel.size), h.ord.below hb h.ord.lt, h.res.below hb h.res.lt, h.best.below hb h.best.lt, h.fnd.below hb h.fnd.lt, Nat.le_trans h.sz hb.size, fun x e => (h.at_ x e).below hb, h.safe⟩
theorem FrSt.shut (h : FrSt w b S W) (hs : Shut S W W') (hS : w.heap.size ≤ S) : FrSt w b S W' :=
 ⟨h.bel.trans (hs.below.mono hS), hs.blk h.ord, hs.blk h.res, hs.blk h.best, hs.blk h.fnd, Nat.le_trans h.sz hs.below.size, fun x e => ⟨shut_ints (h.at_ x e).1 hs, (h.at_ x e).2⟩, h.safe⟩
end
abbrev putR (W : World) (g g' : Nat) (y : Rd) : World := (((W.setCell ⟨g, 0, none⟩ (.slice y.A y.n y.cap)).setCell ⟨g, 1, none⟩ (.int .i64 y.s.1)).setCell ⟨g, 2, none⟩ (.int .i64 y.s.2)).setCell ⟨g', 0, none⟩ (.bool true)
theorem FrSt.put {w W : World} {b : Option Rd} {S : Nat} (h : FrSt w b S W) (y : Rd) (hS : w.heap.size + 4 ≤ S) (hy : y.at_ W) (hyr : ∀ a, y.A = some a → S ≤ a.block) :
  FrSt w (some y) S (putR W (w.heap.size + 1 + 1) (w.heap.size + 1 + 1 + 1) y) ∧ KeepsFrom S W (putR W (w.heap.size + 1 + 1) (w.heap.size + 1 + 1 + 1) y) ∧ KpR w.heap.size S W (putR W (w.heap.size + 1 + 1) (w.heap.size + 1 + 1 + 1) y) := by
 have fr : ∀ {g : Nat} {ty : TypeId} {cs : Array Value}, Blk W g ty cs → g ≠ w.heap.size + 1 + 1 → Blk (((W.setCell ⟨w.heap.size + 1 + 1, 0, none⟩ (.slice y.A y.n y.cap)).setCell ⟨w.heap.size + 1 + 1, 1, none⟩ (.int .i64 y.s.1)).setCell ⟨w.heap.size + 1 + 1, 2, none⟩ (.int .i64 y.s.2)) g ty cs :=
  fun b hne => ((b.far (p := ⟨w.heap.size + 1 + 1, 0, none⟩) hne _).far (p := ⟨w.heap.size + 1 + 1, 1, none⟩) hne _).far (p := ⟨w.heap.size + 1 + 1, 2, none⟩) hne _
 have ko : KeepsOthers W (putR W (w.heap.size + 1 + 1) (w.heap.size + 1 + 1 + 1) y) := (((KeepsOthers.setCell W _ _).trans (KeepsOthers.setCell _ _ _)).trans (KeepsOthers.setCell _ _ _)).trans (KeepsOthers.setCell _ _ _)
 have hb3 : Blk (((W.setCell ⟨w.heap.size + 1 + 1, 0, none⟩ (.slice y.A y.n y.cap)).setCell ⟨w.heap.size + 1 + 1, 1, none⟩ (.int .i64 y.s.1)).setCell ⟨w.heap.size + 1 + 1, 2, none⟩ (.int .i64 y.s.2)) (w.heap.size + 1 + 1) 131 y.cells := ((h.best.set_ 0 _).set_ 1 _).set_ 2 _
 refine ⟨⟨?_, (fr h.ord (by omega)).far (p := ⟨w.heap.size + 1 + 1 + 1, 0, none⟩) (by simp; omega) _, (fr h.res (by omega)).far (p := ⟨w.heap.size + 1 + 1 + 1, 0, none⟩) (by simp) _, hb3.far (p := ⟨w.heap.size + 1 + 1 + 1, 0, none⟩) (by simp) _, (fr h.fnd (by omega)).set_ 0 _, Nat.le_trans h.sz ko.size, ?_, fun x e => by cases e; exact hyr⟩, ko.from S, ?_⟩
 ·exact (((h.bel.setCell (p := ⟨w.heap.size + 1 + 1, 0, none⟩) (by simp; omega) _).setCell (p := ⟨w.heap.size + 1 + 1, 1, none⟩) (by simp; omega) _).setCell (p := ⟨w.heap.size + 1 + 1, 2, none⟩) (by simp; omega) _).setCell (p := ⟨w.heap.size + 1 + 1 + 1, 0, none⟩) (by simp; omega) _
 ·intro x e
  cases e
  have g1 : W.grownBy (((W.setCell ⟨w.heap.size + 1 + 1, 0, none⟩ (.slice y.A y.n y.cap)).setCell ⟨w.heap.size + 1 + 1, 1, none⟩ (.int .i64 y.s.1)).setCell ⟨w.heap.size + 1 + 1, 2, none⟩ (.int .i64 y.s.2)) (some (w.heap.size + 1 + 1)) :=
   grown_setCell (grown_setCell (grown_setCell (grown_refl W _) (p := ⟨w.heap.size + 1 + 1, 0, none⟩) (.inl rfl) _) (p := ⟨w.heap.size + 1 + 1, 1, none⟩) (.inl rfl) _) (p := ⟨w.heap.size + 1 + 1, 2, none⟩) (.inl rfl) _
  have h1 := Reads.grown hy.1 g1 (Nat.le_refl _) (fun a ha e => by have := hyr a ha; have := Option.some.inj e; omega)
  have h2 := Reads.grown (h1.more g1.size) (grown_setCell (grown_refl _ (some (w.heap.size + 1 + 1 + 1))) (p := ⟨w.heap.size + 1 + 1 + 1, 0, none⟩) (.inl rfl) (.bool true)) (Nat.le_refl _) (fun a ha e => by have := hyr a ha; have := Option.some.inj e; omega)
  exact ⟨h2.more (by simp), hy.2⟩
 ·exact (((KpR.setCell _ _ _ (by simp; omega) (by simp; omega)).trans (KpR.setCell _ _ _ (by simp; omega) (by simp; omega))).trans (KpR.setCell _ _ _ (by simp; omega) (by simp; omega))).trans (KpR.setCell _ _ _ (by simp; omega) (by simp; omega))
theorem ret3 {w W : World} {B g : Nat} {t : TypeId} {ds : List Deferred} {z0 z1 z2 : Value} (R : Blk W g t #[z0, z1, z2]) (M : Marks B W ds) (L : Below B w W) (hg : B ≤ g) (v0 v1 v2 : Value) :
  Blk (((W.setCell ⟨g, 0, none⟩ v0).setCell ⟨g, 1, none⟩ v1).setCell ⟨g, 2, none⟩ v2) g t #[v0, v1, v2] ∧ Marks B (((W.setCell ⟨g, 0, none⟩ v0).setCell ⟨g, 1, none⟩ v1).setCell ⟨g, 2, none⟩ v2) ds ∧
  Below B w (((W.setCell ⟨g, 0, none⟩ v0).setCell ⟨g, 1, none⟩ v1).setCell ⟨g, 2, none⟩ v2) ∧ W.grownBy (((W.setCell ⟨g, 0, none⟩ v0).setCell ⟨g, 1, none⟩ v1).setCell ⟨g, 2, none⟩ v2) (some g) := by
 have R1 := R.set_ 0 v0
 have R2 := R1.set_ 1 v1
 exact ⟨R2.set_ 2 v2, ((M.setCell R 0 v0).setCell R1 1 v1).setCell R2 2 v2, ((L.setCell (p := ⟨g, 0, none⟩) hg _).setCell (p := ⟨g, 1, none⟩) hg _).setCell (p := ⟨g, 2, none⟩) hg _,
  grown_setCell (grown_setCell (grown_setCell (grown_refl W (some g)) (p := ⟨g, 0, none⟩) (.inl rfl) v0) (p := ⟨g, 1, none⟩) (.inl rfl) v1) (p := ⟨g, 2, none⟩) (.inl rfl) v2⟩
def Safe (n0 n1 : Nat) (A : Option Addr) : Prop := ∀ a, A = some a → n1 ≤ a.block
def AtR (n0 n1 : Nat) (x : Rd) (W : World) : Prop := x.at_ W ∧ Safe n0 n1 x.A
set_option maxRecDepth 100000 in
set_option maxHeartbeats 8000000 in
theorem firstR_in (gf : Nat) (lb : Array Value) (S : List Rd → Prop) (w : World) (eg : ∀ args w, (callFunc gf args).run Tryz.prog w = .ok (.enter gf args) w)
  (hseq : ∀ w0, Below w.heap.size w w0 → SeqAt Fence.wide 8 Tryz.prog gf lb (fun x : Rd => #[x.val]) (AtR w.heap.size w0.heap.size) (KpR w.heap.size w0.heap.size) S w0) :
  CallsIn Fence.wide 9 Tryz.prog 76 #[.func (.func gf) #[] lb, .func (.func 83) #[] #[]] w (FirstROut w S) := by
 have HSQ := lh hseq
 have HEG := lh eg
 clear hseq eg
 refine callsIn_of_wp_marks Tryz.func76 rfl trivial ?_ rfl
 simp only [Tryz.ntmps76, List.size_toArray, List.length_cons, List.length_nil, Nat.reduceAdd, Nat.reduceSub, Array.replicate_succ, Array.replicate_zero, List.push_toArray, List.append_toArray, List.nil_append, List.cons_append]
 gi_wp2
 have L0 := Lay.four w 146 #[.func (.func 83) #[] #[]] 131 #[.slice none 0 0, .int .i64 0, .int .i64 0] 131 #[.slice none 0 0, .int .i64 0, .int .i64 0] 4 #[.bool false]
 have z0 : ((((w.alloc (.cells #[.func (.func 83) #[] #[]] 146)).alloc (.cells #[.slice none 0 0, .int .i64 0, .int .i64 0] 131)).alloc (.cells #[.slice none 0 0, .int .i64 0, .int .i64 0] 131)).alloc (.cells #[.bool false] 4)).heap.size = w.heap.size + 4 := by simp
 generalize ((((w.alloc (.cells #[.func (.func 83) #[] #[]] 146)).alloc (.cells #[.slice none 0 0, .int .i64 0, .int .i64 0] 131)).alloc (.cells #[.slice none 0 0, .int .i64 0, .int .i64 0] 131)).alloc (.cells #[.bool false] 4)) = w0 at *
 have F0 : FrSt w none w0.heap.size w0 := ⟨L0.1, L0.blk 0 rfl, L0.blk 1 rfl, L0.blk 2 rfl, L0.blk 3 rfl, Nat.le_refl _, (fun x e => by cases e), fun x e => by cases e⟩
 have hsq := HSQ.out w0 L0.1
 have hz0 : w.heap.size + 4 ≤ w0.heap.size := by omega
 clear L0 z0
 refine wpIn_rangeAt rfl (by omega) (gf := gf) (lb := lb) rfl trivial HEG.out hsq (fun h k => KpR.trans h k) (fun W l o o' _ h h1 h2 => KpR.put W l o o' h h1 h2) (fun _ => rfl)
  (fun pre Wr => ∃ b, FrSt w b w0.heap.size Wr ∧ (pre.map Rd.rnd).foldl stepC none = b.map Rd.rnd)
  (ownFrom_shut (fun s Wr h => by obtain ⟨b, h, _⟩ := h; exact h.sz) (fun s Wr Wr' h hs => by obtain ⟨b, h, h2⟩ := h; exact ⟨b, h.shut hs (by omega), h2⟩))
  (fun s A B h hb => by obtain ⟨b, h, h2⟩ := h; exact ⟨b, h.below hb, h2⟩)
  ⟨none, F0, rfl⟩
  (fun y a' Wr => ∃ Bx, w0.heap.size ≤ Bx ∧ Blk Wr Bx 131 y.cells ∧ AtR w.heap.size w0.heap.size y Wr ∧
   a' = { tmps := #[.func (.func gf) #[] lb, .func (.func 83) #[] #[], undef, .pointer (some ⟨w.heap.size, 0, none⟩), .pointer (some ⟨w.heap.size + 1, 0, none⟩), .bool false, .pointer (some ⟨w.heap.size + 1 + 1, 0, none⟩), .pointer (some ⟨w.heap.size + 1 + 1 + 1, 0, none⟩), .pointer (some ⟨Bx, 0, none⟩), .func (.func gf) #[] lb, y.val, undef, undef, undef, undef, undef, undef, undef, undef, undef, undef, undef, undef], defers := [] })
  (fun y a' => ownFrom_shut (fun _ Wr h => by obtain ⟨Bx, h1, h2, _⟩ := h; exact Nat.le_trans h1 (Nat.le_of_lt h2.lt)) (fun _ Wr Wr' h hs => by obtain ⟨Bx, h1, h2, h3, h4⟩ := h; exact ⟨Bx, h1, hs.blk h2, ⟨⟨shut_ints h3.1.1 hs, h3.1.2⟩, h3.2⟩, h4⟩)) ?assign ?body ?done
 case assign =>
  rintro l' pre y Wr K ⟨b, hI, hB⟩ hat hK
  gi_wp2
  have hb : Below Wr.heap.size Wr (Wr.alloc (.cells #[.slice y.A y.n y.cap, .int .i64 y.s.1, .int .i64 y.s.2] 131)) := (Below.refl _ _).alloc (Nat.le_refl _) _
  exact hK _ _ (keepsFrom_below hb) (KpR.of_below hb) ⟨b, hI.below hb, hB⟩ ⟨Wr.heap.size, hI.sz, Blk.new Wr _ _, ⟨hat.1.below hb, hat.2⟩, rfl⟩
 case body =>
  rintro l' pre y a' Wr ⟨b, hI, hB⟩ ⟨Bx, hBx, bX, hat, rfl⟩
  have i0 := bX.cell 0
  have i1 := bX.cell 1
  have i2 := bX.cell 2
  have o0 := hI.ord.cell 0
  have f0 := hI.fnd.cell 0
  have f1 := hI.fnd.frozen 0
  have x0 := hI.best.cell 0
  have x1 := hI.best.cell 1
  have x2 := hI.best.cell 2
  have z0_ := hI.best.frozen 0
  have z1_ := hI.best.frozen 1
  have z2_ := hI.best.frozen 2
  have HI := lh hI
  have HB := lh hB
  have HX := lh bX
  have HAT := lh hat
  have hyr := lh (show ∀ a, y.A = some a → w0.heap.size ≤ a.block from hat.2)
  clear hI hB bX hat
  cases b with
  | none =>
   gi_wp2
   refine ⟨fun _ h => (by cases h), ?_⟩
   gi_wp2
   have hp := HI.out.put y (by omega) HAT.out.1 hyr.out
   refine ⟨hp.2.1, hp.2.2, some y, hp.1, ?_⟩
   rw [HB.out]
   rfl
  | some z =>
   have hcall := rorder_any y z Wr HAT.out.1 (HI.out.at_ z rfl)
   obtain ⟨cv, hcv⟩ : ∃ cv, cmpR y.rnd z.rnd = cv := ⟨_, rfl⟩
   rw [hcv] at hcall
   have HC := lh hcall
   have HCV := lh hcv
   clear hcall hcv
   gi_wp2
   refine ⟨trivial, (CallsIn.inRound l' (callsIn_wide.2 HC.out)).mono ?_⟩
   rintro e w1 ⟨rfl, hb1⟩
   have HI1 := lh (HI.out.below hb1)
   have HX1 := lh (HX.out.below hb1 HX.out.lt)
   have HA1 := lh (HAT.out.1.below hb1)
   have HB1 := lh hb1
   clear i0 i1 i2 o0 f0 f1 x0 x1 x2 z0_ z1_ z2_ hb1
   have i0 := HX1.out.cell 0
   have i1 := HX1.out.cell 1
   have i2 := HX1.out.cell 2
   have f0 := HI1.out.fnd.cell 0
   have f1 := HI1.out.fnd.frozen 0
   have x0 := HI1.out.best.cell 0
   have x1 := HI1.out.best.cell 1
   have x2 := HI1.out.best.cell 2
   have z0_ := HI1.out.best.frozen 0
   have z1_ := HI1.out.best.frozen 1
   have z2_ := HI1.out.best.frozen 2
   by_cases hlt : cv < 0
   ·gi_wp2
    have hp := HI1.out.put y (by omega) HA1.out hyr.out
    refine ⟨(keepsFrom_below HB1.out).trans hp.2.1, (KpR.of_below HB1.out).trans hp.2.2, some y, hp.1, ?_⟩
    rw [HB.out]
    show stepC (some z.rnd) y.rnd = some y.rnd
    unfold stepC
    simp only
    rw [HCV.out, if_pos hlt]
   ·gi_wp2
    refine ⟨keepsFrom_below HB1.out, KpR.of_below HB1.out, some z, HI1.out, ?_⟩
    rw [HB.out]
    show stepC (some z.rnd) y.rnd = some z.rnd
    unfold stepC
    simp only
    rw [HCV.out, if_neg (by omega)]
 case done =>
  rintro D ys Wr hD hys ⟨b, hI, hB⟩ hK
  have f0 := hI.fnd.cell 0
  have x0 := hI.best.cell 0
  have x1 := hI.best.cell 1
  have x2 := hI.best.cell 2
  have z0_ := hI.res.frozen 0
  have z1_ := hI.res.frozen 1
  have z2_ := hI.res.frozen 2
  have r0 := hI.res.cell 0
  have r1 := hI.res.cell 1
  have r2 := hI.res.cell 2
  have hmk : Marks w.heap.size Wr [{ target := .collected D, args := #[] }] := ⟨⟨D, by omega, rfl, hK, by simp⟩, trivial⟩
  have HR3 := lh (ret3 hI.res hmk hI.bel (by omega) (.slice (b.getD zeroRd).A (b.getD zeroRd).n (b.getD zeroRd).cap) (.int .i64 (b.getD zeroRd).s.1) (.int .i64 (b.getD zeroRd).s.2))
  have HAT := lh hI.at_
  have HSF := lh hI.safe
  have HBB := lh hB
  have hbc := hI.best
  have HNE := lh (show w.heap.size + 1 < w0.heap.size by omega)
  clear hI hK hmk hB hbc
  obtain ⟨bv, hbv⟩ : ∃ bv, b.getD zeroRd = bv := ⟨_, rfl⟩
  rw [hbv] at x0 x1 x2 HR3
  have HBV := lh hbv
  clear hbv
  gi_wp2
  gi_region
  all_goals
   gi_wp2
   refine leaves_marks _ _ (Marks.drew HR3.out.2.1) ?_
   intro w' hs
   have RW := hs.blk (Blk.drew HR3.out.1)
   have y0 := RW.cell 0
   have y1 := RW.cell 1
   have y2 := RW.cell 2
   refine ⟨.tuple #[bv.val, .bool b.isSome], ?_, ⟨ys, hys, (below_drewN HR3.out.2.2.1 1).trans hs.below, b, HBB.out, by rw [HBV.out], fun x hx => ?_⟩⟩
   ·simp [results, Tryz.results76, go_sem, y0, y1, y2]
   ·have h1 := HAT.out x hx
    have h2 := Reads.grown h1.1 HR3.out.2.2.2 (Nat.le_refl _) (fun a ha e => by have := HSF.out x hx a ha; have := Option.some.inj e; omega)
    exact ⟨⟨shut_ints (Reads.drewN (h2.more HR3.out.2.2.2.size) 1) hs, h1.2⟩, fun a ha => by have := HSF.out x hx a ha; omega⟩
end
section
open Go.RowKit
theorem leads_fst (dk : Bool) (p p' : Price) (x : Link) (u : Int) : (leads dk p x u).map Prod.fst = (leads dk p' x u).map Prod.fst := by
 unfold leads
 split
 ·rfl
 ·split
  ·rfl
  ·split <;> rfl
theorem stepF_fst (t : Town) (p p' : Price) (u i : Int) : (stepF t p u i).map Prod.fst = (stepF t p' u i).map Prod.fst := by
 unfold stepF
 induction t.links with
 | nil => rfl
 | cons x xs ih =>
  rw [List.findSome?_cons, List.findSome?_cons]
  by_cases e : x.id = i
  ·rw [if_pos e, if_pos e]
   have h := leads_fst false p p' x u
   cases h1 : leads false p x u <;> cases h2 : leads false p' x u <;> rw [h1, h2] at h <;> simp at h
   ·exact ih
   ·simp [h]
  ·rw [if_neg e, if_neg e]
   exact ih
theorem walkS_fst (t : Town) (p p' : Price) : ∀ (l : List Int) (s s' : Int × Cost), s.1 = s'.1 → (walkS t p s l).map Prod.fst = (walkS t p' s' l).map Prod.fst
 | [], s, s', h => by simp [walkS, h]
 | i :: r, s, s', h => by
  have h1 := stepF_fst t p p' s.1 i
  unfold walkS
  rw [h] at h1 ⊢
  cases h2 : stepF t p s'.1 i <;> cases h3 : stepF t p' s'.1 i <;> rw [h2, h3] at h1 <;> simp at h1
  ·exact walkS_fst t p p' r _ _ h1
theorem walkedF_fst (t : Town) (p p' : Price) (u : Int) (l : List Int) : (walkedF t p u l).map Prod.fst = (walkedF t p' u l).map Prod.fst := by
 unfold walkedF
 split
 ·rfl
 ·exact walkS_fst t p p' l _ _ rfl
theorem walkedF_isSome (t : Town) (p p' : Price) (u : Int) (l : List Int) : (walkedF t p u l).isSome = (walkedF t p' u l).isSome := by
 have h := walkedF_fst t p p' u l
 cases h1 : walkedF t p u l <;> cases h2 : walkedF t p' u l <;> rw [h1, h2] at h <;> simp at h ⊢
theorem walkS_walk {t : Town} {p : Price} : ∀ (l : List Int) (u v : Int) (c c' : Cost), walkS t p (u, c) l = some (v, c') → ∃ d, Walk t false p u v d l ∧ c' = addC c d
 | [], u, v, c, c', h => by
  simp only [walkS, Option.some.injEq, Prod.mk.injEq] at h
  obtain ⟨rfl, rfl⟩ := h
  exact ⟨zeroC, .nil u, (addC_zero c).symm⟩
 | i :: r, u, v, c, c', h => by
  unfold walkS at h
  cases hs : stepF t p u i with
  | none => simp only [hs] at h; cases h
  | some q =>
   obtain ⟨m, cx⟩ := q
   simp only [hs] at h
   obtain ⟨x, hx, rfl, hl⟩ := stepF_some hs
   obtain ⟨d, hw, he⟩ := walkS_walk r m v _ _ h
   exact ⟨addC cx d, .cons hx hl hw, by rw [he, addC_assoc]⟩
theorem walkedF_walk {t : Town} {p : Price} {u v : Int} {l : List Int} {c : Cost} (h : walkedF t p u l = some (v, c)) : Walk t false p u v c l ∧ l.length ≤ 40 := by
 unfold walkedF at h
 split at h
 ·cases h
 ·obtain ⟨d, hw, he⟩ := walkS_walk l u v _ _ h
  rw [zero_addC] at he
  subst he
  exact ⟨hw, by omega⟩
def firstA (t : Town) (p : Price) (u : Int) (l : List Int) : Int := match walkedF t p u l with
 | some q => q.2.a
 | none => 0
def betE (t : Town) (u : Int) (l : List Int) : Int := if (walkedF t ⟨0, 0, 0⟩ u l).isSome then 0 else 32
theorem firstA_none {t : Town} {p : Price} {u : Int} {l : List Int} (h : (walkedF t p u l).isSome = false) : firstA t p u l = 0 := by
 unfold firstA
 cases h1 : walkedF t p u l
 ·rfl
 ·rw [h1] at h; cases h
theorem firstA_bound {t : Town} {p : Price} (hf : Fine t) (hp : Fair p) (u : Int) (l : List Int) : 0 ≤ firstA t p u l ∧ firstA t p u l ≤ 5000000 := by
 unfold firstA
 cases h : walkedF t p u l with
 | none => simp
 | some q =>
  obtain ⟨v, c⟩ := q
  obtain ⟨hw, hl⟩ := walkedF_walk h
  have := hw.bound hf hp
  simp only
  omega
theorem walked_all (A : Option Addr) (nn c : Nat) (A' : Option Addr) (m d : Nat) (F : FuncId) (C : Array Value) (p : Price) (t : Town) (place : Int) (A2 : Option Addr) (k2 c2 : Nat) (l : List Int) (w : World)
  (hm : m ≤ 20) (hk2 : k2 ≤ 1000) (ht : LinksAt w w.heap.size A' m t.links) (hp : PriceAt w p F C) (hfine : Fine t) (hfair : Fair p) (hr : IntsAt w w.heap.size A2 k2 l) :
  Calls Tryz.prog 95 #[.agg #[.slice A nn c, .slice A' m d, .bool false, .func (.func F) #[] C], .int .i64 place, .slice A2 k2 c2] w (WalkedOut w (walkedF t p place l)) := by
 rcases Nat.lt_or_ge 40 k2 with h | h
 ·exact walked_long A nn c A' m d F C p t place A2 k2 c2 l w h hk2 hr
 ·exact walked_any A nn c A' m d F C p t place A2 k2 c2 l w hm h ht hp hfine hfair hr
set_option maxRecDepth 100000 in
set_option maxHeartbeats 2000000 in
theorem between_any (A : Option Addr) (n c : Nat) (A' : Option Addr) (m d : Nat) (F1 : FuncId) (C1 : Array Value) (F2 : FuncId) (C2 : Array Value) (p1 p2 : Price) (t : Town) (place : Int) (A2 : Option Addr) (k2 c2 : Nat) (l : List Int) (w : World)
  (hm : m ≤ 20) (hk2 : k2 ≤ 1000) (ht : LinksAt w w.heap.size A' m t.links) (hp1 : PriceAt w p1 F1 C1) (hp2 : PriceAt w p2 F2 C2) (hfine : Fine t) (hf1 : Fair p1) (hf2 : Fair p2) (hr : IntsAt w w.heap.size A2 k2 l) :
  Calls Tryz.prog 92 #[.agg #[.slice A n c, .slice A' m d], .int .i64 place, .slice A2 k2 c2, .func (.func F1) #[] C1, .func (.func F2) #[] C2] w fun e w' => e = .returned (.tuple #[.agg #[.int .i64 (firstA t p1 place l), .int .i64 (firstA t p2 place l)], .int .i64 (betE t place l)]) ∧ Below w.heap.size w w' := by
 have HT := lh ht
 have HP1 := lh hp1
 have HP2 := lh hp2
 have HFI := lh hfine
 have HF1 := lh hf1
 have HF2 := lh hf2
 have HR := lh hr
 have HS1 := lh (walkedF_isSome t p1 ⟨0, 0, 0⟩ place l)
 have HS2 := lh (walkedF_isSome t p2 ⟨0, 0, 0⟩ place l)
 clear ht hp1 hp2 hfine hf1 hf2 hr
 go_enter Tryz.func92, Tryz.ntmps92
 go_wp2_with fail
 have X0 := (Blk.new w 25 #[.slice A n c, .slice A' m d]).alloc (.cells #[.int .i64 0, .int .i64 0] 63)
 have Y0 := Blk.new (w.alloc (.cells #[.slice A n c, .slice A' m d] 25)) 63 #[.int .i64 0, .int .i64 0]
 have B0 : Below w.heap.size w ((w.alloc (.cells #[.slice A n c, .slice A' m d] 25)).alloc (.cells #[.int .i64 0, .int .i64 0] 63)) := ((Below.refl _ _).alloc (Nat.le_refl _) _).alloc (by simp) _
 rw [World.size_alloc] at Y0
 generalize ((w.alloc (.cells #[.slice A n c, .slice A' m d] 25)).alloc (.cells #[.int .i64 0, .int .i64 0] 63)) = w0 at *
 refine (walked_all A n c A' m d F1 C1 p1 t place A2 k2 c2 l w0 hm hk2 ((HT.out.below B0).more B0.size) (HP1.out.below B0) HFI.out HF1.out ((HR.out.below B0).more B0.size)).mono ?_
 rintro e w1 ⟨x1, co1, rfl, hq1, hb1⟩
 have HQ1 := lh hq1
 have X1 := X0.below hb1 X0.lt
 have Y1 := Y0.below hb1 Y0.lt
 have B1 := B0.trans (hb1.mono B0.size)
 have x0 := X1.cell 0
 have xx := X1.cell 1
 have y0 := Y1.cell 0
 have y1 := Y1.cell 1
 have z0 := Y1.frozen 0
 have z1 := Y1.frozen 1
 have hl1 := X1.lt
 have hl2 := Y1.lt
 have HX1 := lh X1
 have HY1 := lh Y1
 clear hq1 hb1 X0 Y0 X1 Y1
 cases h1 : (walkedF t p1 place l).isSome with
 | false =>
  have H1 := lh h1
  clear h1
  go_wp2_with fail
  have R1 := ret2 HY1.out B1 (by omega) (.int .i64 0) (.int .i64 0)
  have R2 := R1.1.alloc (.cells #[.int .i64 x1, .int .i64 co1.a, .int .i64 co1.b, .int .i64 co1.c, .int .i64 co1.d, .slice none 0 0] 99)
  have r0 := R2.cell 0
  have r1 := R2.cell 1
  refine bodyPost_ret (v := .tuple #[.agg #[.int .i64 0, .int .i64 0], .int .i64 32]) (by simp [results, Tryz.results92, go_sem, r0, r1]) rfl ⟨?_, R1.2.alloc R1.2.size _⟩
  rw [firstA_none H1.out, firstA_none (HS2.out.trans (HS1.out.symm.trans H1.out))]
  unfold betE
  rw [← HS1.out, H1.out]
  rfl
 | true =>
  obtain ⟨q1, e1⟩ := Option.isSome_iff_exists.1 h1
  have hco1 : firstA t p1 place l = co1.a := by
   unfold firstA
   rw [e1, HQ1.out q1 e1]
  have H1 := lh h1
  have HC1 := lh hco1
  clear h1 e1 hco1
  go_wp2_with fail
  have BB := (Below.refl w1.heap.size w1).alloc (Nat.le_refl _) (.cells #[.int .i64 x1, .int .i64 co1.a, .int .i64 co1.b, .int .i64 co1.c, .int .i64 co1.d, .slice none 0 0] 99)
  have HX2 := lh (HX1.out.below BB HX1.out.lt)
  have HY2 := lh (HY1.out.below BB HY1.out.lt)
  have B2 := B1.trans (BB.mono B1.size)
  have Z2 := Blk.new w1 99 #[.int .i64 x1, .int .i64 co1.a, .int .i64 co1.b, .int .i64 co1.c, .int .i64 co1.d, .slice none 0 0]
  obtain ⟨Z, hZ⟩ : ∃ Z, w1.heap.size = Z := ⟨_, rfl⟩
  rw [hZ] at Z2 hl1 hl2 ⊢
  have HZ2 := lh Z2
  clear Z2 BB x0 xx y0 y1 z0 z1
  generalize (w1.alloc (.cells #[.int .i64 x1, .int .i64 co1.a, .int .i64 co1.b, .int .i64 co1.c, .int .i64 co1.d, .slice none 0 0] 99)) = w2 at *
  clear hZ
  refine (walked_all A n c A' m d F2 C2 p2 t place A2 k2 c2 l w2 hm hk2 ((HT.out.below B2).more B2.size) (HP2.out.below B2) HFI.out HF2.out ((HR.out.below B2).more B2.size)).mono ?_
  rintro e w3 ⟨x2, co2, rfl, hq2, hb3⟩
  have h2 : (walkedF t p2 place l).isSome = true := HS2.out.trans (HS1.out.symm.trans H1.out)
  obtain ⟨q2, e2⟩ := Option.isSome_iff_exists.1 h2
  have hco2 : firstA t p2 place l = co2.a := by
   unfold firstA
   rw [e2, hq2 q2 e2]
  have HC2 := lh hco2
  rw [h2]
  have HY3 := lh (HY2.out.below hb3 HY2.out.lt)
  have HZ3 := lh (HZ2.out.below hb3 HZ2.out.lt)
  have B3 := B2.trans (hb3.mono B2.size)
  clear hq2 e2 hco2 h2 hb3
  have y0 := HY3.out.cell 0
  have y1 := HY3.out.cell 1
  have z0 := HY3.out.frozen 0
  have z1 := HY3.out.frozen 1
  have v1 := HZ3.out.cell 1
  have hl3 := HY3.out.lt
  have hl4 := HZ3.out.lt
  go_wp2_with fail
  have R1 := ret2 HY3.out B3 (by omega) (.int .i64 co1.a) (.int .i64 co2.a)
  have R2 := R1.1.alloc (.cells #[.int .i64 x2, .int .i64 co2.a, .int .i64 co2.b, .int .i64 co2.c, .int .i64 co2.d, .slice none 0 0] 99)
  have r0 := R2.cell 0
  have r1 := R2.cell 1
  refine bodyPost_ret (v := .tuple #[.agg #[.int .i64 co1.a, .int .i64 co2.a], .int .i64 0]) (by simp [results, Tryz.results92, go_sem, r0, r1]) rfl ⟨?_, R1.2.alloc R1.2.size _⟩
  rw [HC1.out, HC2.out]
  unfold betE
  rw [← HS1.out, H1.out]
  rfl
end
section
open Go.RowKit
structure Span where
 lo : Int
 hi : Int
 deriving DecidableEq
def Span.vals (x : Span) : List Value := [.int .i64 x.lo, .int .i64 x.hi]
def SpansAt (w : World) (B : Nat) (A : Option Addr) (n : Nat) (l : List Span) : Prop := Reads w B 2 A n (l.flatMap Span.vals)
section
variable {w w' : World} {B B' n : Nat} {A : Option Addr} {l : List Span}
theorem SpansAt.len (h : SpansAt w B A n l) : l.length = n := by have := h.1; rw [flat_len' (size := 2) (fun _ => rfl)] at this; omega
theorem SpansAt.below (h : SpansAt w B A n l) (hb : Below B w w') : SpansAt w' B A n l := Reads.below h hb
theorem SpansAt.more (h : SpansAt w B A n l) (hB : B ≤ B') : SpansAt w B' A n l := Reads.more h hB
theorem SpansAt.cell (h : SpansAt w B A n l) {k : Nat} (hk : k < n) : ∃ b off x, A = some ⟨b, off, none⟩ ∧ b < B ∧ l[k]? = some x ∧
  w.cell? ⟨b, off + k * 2, none⟩ = some (.int .i64 x.lo) ∧ w.cell? ⟨b, off + k * 2 + 1, none⟩ = some (.int .i64 x.hi) := by
 have hl := h.len
 obtain ⟨b, off, e, hb, hc⟩ := Reads.plain h (by rw [flat_len' (size := 2) (fun _ => rfl)]; omega)
 have hx : l[k]? = some l[k] := List.getElem?_eq_getElem (by omega)
 refine ⟨b, off, _, e, hb, hx, ?_, ?_⟩
 ·have := hc (k * 2 + 0) (.int .i64 l[k].lo) (by rw [flat_at' (size := 2) (fun _ => rfl) hx (by omega)]; rfl); exact this
 ·have := hc (k * 2 + 1) (.int .i64 l[k].hi) (by rw [flat_at' (size := 2) (fun _ => rfl) hx (by omega)]; rfl); exact this
end
set_option maxRecDepth 100000 in
set_option maxHeartbeats 2000000 in
theorem indexFunc_span (F : FuncId) (C : Array Value) (p : Span → Bool) (A : Option Addr) (n c : Nat) (l : List Span) (w : World) (hr : SpansAt w w.heap.size A n l) (hn : n ≤ maxLen)
  (hE : ∀ args W, (callFunc F args).run Tryz.prog W = .ok (.enter F args) W)
  (hF : ∀ x, ∀ W, Below w.heap.size w W → Calls Tryz.prog F (#[.agg #[.int .i64 x.lo, .int .i64 x.hi]] ++ C) W fun e w' => e = .returned (.bool (p x)) ∧ Below W.heap.size W w') :
  Calls Tryz.prog 154 #[.slice A n c, .func (.func F) #[] C] w fun e w' => e = .returned (.int .i64 (idxL p l)) ∧ Below w.heap.size w w' := by
 unfold maxLen at hn
 have HF := lh hF
 clear hF
 go_enter Tryz.func154, Tryz.ntmps154
 go_wp2_with fail
 go_loopw [8, 5] (fun i j wr => ∃ k : Nat, k ≤ n ∧ i = .int .i64 k ∧ (∀ y ∈ l.take k, p y = false) ∧ Below w.heap.size w wr)
  (fun i _ _ => n - (intOf i).toNat)
 case atStart => exact ⟨0, by omega, rfl, by simp, Below.refl _ _⟩
 case round =>
  obtain ⟨k, hk, rfl, hno, hb⟩ := hrel
  have HN := lh hno
  clear hno
  by_cases hlt : k < n
  ·obtain ⟨b, off, x, rfl, hbB, hx, hc0, hc1⟩ := (hr.below hb).cell hlt
   have HX := lh hx
   clear hx
   go_wp2_with fail
   refine (HF.out x _ hb).mono ?_
   rintro e w' ⟨rfl, hb'⟩
   cases hp : p x with
   | true =>
    have HP := lh hp
    clear hp
    go_wp2_with fail
    go_ret
    exact ⟨ret_int (idxL_some HX.out HP.out HN.out).symm, hb.trans (hb'.mono hb.size)⟩
   | false =>
    have HP := lh hp
    clear hp
    go_wp2_with fail
    go_roundw
    case rel => exact ⟨k + 1, by omega, by go_num, take_snoc_all HX.out HP.out HN.out, hb.trans (hb'.mono hb.size)⟩
    case measure => simp [intOf]; omega
  ·go_wp2_with fail
   go_ret
   exact ⟨ret_int (idxL_none (by
    have := HN.out
    rwa [List.take_of_length_le (by have := hr.len; omega)] at this)).symm, hb⟩
theorem idxL_ge {α : Type} {p : α → Bool} {l : List α} : decide (0 ≤ idxL p l) = l.any p := by
 unfold idxL
 cases h : l.any p <;> simp
set_option maxHeartbeats 1000000 in
theorem containsFunc_span (F : FuncId) (C : Array Value) (p : Span → Bool) (A : Option Addr) (n c : Nat) (l : List Span) (w : World) (hr : SpansAt w w.heap.size A n l) (hn : n ≤ maxLen)
  (hE : ∀ args W, (callFunc F args).run Tryz.prog W = .ok (.enter F args) W)
  (hF : ∀ x, ∀ W, Below w.heap.size w W → Calls Tryz.prog F (#[.agg #[.int .i64 x.lo, .int .i64 x.hi]] ++ C) W fun e w' => e = .returned (.bool (p x)) ∧ Below W.heap.size W w') :
  Calls Tryz.prog 146 #[.slice A n c, .func (.func F) #[] C] w fun e w' => e = .returned (.bool (l.any p)) ∧ Below w.heap.size w w' := by
 have H := lh (indexFunc_span F C p A n c l w hr hn hE hF)
 clear hE hF
 go_enter Tryz.func146, Tryz.ntmps146
 go_wp2_with fail
 refine H.out.mono ?_
 rintro e w' ⟨rfl, hb⟩
 go_wp2_with fail
 go_ret
 exact ⟨ret_bool idxL_ge, hb⟩
def spanB (most : Int) (x : Span) : Bool := inB 0 most [x.lo, x.hi] && decide (x.lo ≤ x.hi)
theorem two_ints {W : World} {g : Nat} {t : TypeId} {x y : Int} (h : Blk W g t #[.int .i64 x, .int .i64 y]) : IntsAt W W.heap.size (some ⟨g, 0, none⟩) 2 [x, y] :=
 ⟨rfl, fun _ => ⟨_, rfl, h.lt, fun j u hu => by
  match j, hu with
  | 0, hu => simp at hu; rw [← hu]; simpa [Addr.add] using h.cell 0
  | 1, hu => simp at hu; rw [← hu]; simpa [Addr.add] using h.cell 1⟩⟩
set_option maxRecDepth 100000 in
set_option maxHeartbeats 2000000 in
theorem spanned1_any (x : Span) (most : Int) (g : Nat) (w : World) (hg : g < w.heap.size) (hc : w.cell? ⟨g, 0, none⟩ = some (.int .i64 most)) :
  Calls Tryz.prog 147 (#[.agg #[.int .i64 x.lo, .int .i64 x.hi]] ++ #[.pointer (some ⟨g, 0, none⟩)]) w fun e w' => e = .returned (.bool (!spanB most x)) ∧ Below w.heap.size w w' := by
 go_enter Tryz.func147, Tryz.ntmps147
 go_wp2_with fail
 have X0 := (Blk.new w 63 #[.int .i64 x.lo, .int .i64 x.hi]).alloc (.cells #[.int .i64 x.lo, .int .i64 x.hi] 3)
 have Y0 := Blk.new (w.alloc (.cells #[.int .i64 x.lo, .int .i64 x.hi] 63)) 3 #[.int .i64 x.lo, .int .i64 x.hi]
 have B0 : Below w.heap.size w ((w.alloc (.cells #[.int .i64 x.lo, .int .i64 x.hi] 63)).alloc (.cells #[.int .i64 x.lo, .int .i64 x.hi] 3)) := ((Below.refl _ _).alloc (Nat.le_refl _) _).alloc (by simp) _
 rw [World.size_alloc] at Y0
 generalize ((w.alloc (.cells #[.int .i64 x.lo, .int .i64 x.hi] 63)).alloc (.cells #[.int .i64 x.lo, .int .i64 x.hi] 3)) = w0 at *
 refine (in_any 0 most _ 2 2 [x.lo, x.hi] w0 (two_ints Y0) (by decide)).mono ?_
 rintro e w1 ⟨rfl, hb1⟩
 have X1 := X0.below hb1 X0.lt
 have B1 := B0.trans (hb1.mono B0.size)
 have x0 := X1.cell 0
 have x1 := X1.cell 1
 clear X0 Y0 hb1 X1
 cases hi : inB 0 most [x.lo, x.hi] with
 | false =>
  have HI := lh hi
  clear hi
  go_wp2_with fail
  go_ret
  exact ⟨ret_bool (by unfold spanB; rw [HI.out]; rfl), B1⟩
 | true =>
  have HI := lh hi
  clear hi
  go_wp2_with fail
  go_ret
  refine ⟨ret_bool ?_, B1⟩
  unfold spanB
  rw [HI.out]
  by_cases h : x.lo ≤ x.hi
  ·simp [h]
  ·simp [h]; omega
def spansB (most : Int) (l : List Span) : Bool := !l.any fun x => !spanB most x
theorem enters_sp1 (args : Array Value) (W : World) : (callFunc 147 args).run Tryz.prog W = .ok (.enter 147 args) W := by
 simp [go_sem]
set_option maxRecDepth 100000 in
set_option maxHeartbeats 2000000 in
theorem spanned_any (most : Int) (A : Option Addr) (n c : Nat) (l : List Span) (w : World) (hr : SpansAt w w.heap.size A n l) (hn : n ≤ maxLen) :
  Calls Tryz.prog 121 #[.int .i64 most, .slice A n c] w fun e w' => e = .returned (.bool (spansB most l)) ∧ Below w.heap.size w w' := by
 have hmf : ∀ (fn : Fn) (first cap : Array Value) (w : World), (Instr.makeFunc fn first cap).run Tryz.prog w = .ok (.func fn first cap) w := fun _ _ _ _ => rfl
 go_enter Tryz.func121, Tryz.ntmps121
 go_wp2_with fail
 have hb : Below w.heap.size w (w.alloc (.cells #[.int .i64 most] 3)) := (Below.refl _ _).alloc (Nat.le_refl _) _
 refine (containsFunc_span 147 _ (fun x => !spanB most x) A n c l _ ((hr.below hb).more (by simp)) hn enters_sp1 ?_).mono ?_
 ·intro x W hW
  exact spanned1_any x most _ W (Nat.lt_of_lt_of_le (by simp) hW.size) ((hW.cell (p := ⟨w.heap.size, 0, none⟩) (by simp)).trans (by simp [go_sem]))
 ·rintro e w' ⟨rfl, hb'⟩
  go_wp2_with fail
  go_ret
  exact ⟨rfl, hb.trans (hb'.mono (by simp))⟩
structure Skin where
 drops : Int
 pace : Span
 step : Span
structure Gait where
 pace : Span
 step : Span
def skinB (s : Skin) : Bool := inB 0 100000 [s.drops] && spansB 50 [s.pace, s.step]
def gaitB (g : Gait) : Bool := spansB 20 [g.pace, g.step]
def slowE (g : Gait) : Int := if gaitB g then 0 else 35
def dryE (s : Skin) : Int := if skinB s then 0 else 36
theorem two_spans {W : World} {g : Nat} {t : TypeId} {x y : Span} (h : Blk W g t #[.int .i64 x.lo, .int .i64 x.hi, .int .i64 y.lo, .int .i64 y.hi]) : SpansAt W W.heap.size (some ⟨g, 0, none⟩) 2 [x, y] :=
 ⟨rfl, fun _ => ⟨_, rfl, h.lt, fun j u hu => by
  match j, hu with
  | 0, hu => simp [Span.vals] at hu; rw [← hu]; simpa [Addr.add] using h.cell 0
  | 1, hu => simp [Span.vals] at hu; rw [← hu]; simpa [Addr.add] using h.cell 1
  | 2, hu => simp [Span.vals] at hu; rw [← hu]; simpa [Addr.add] using h.cell 2
  | 3, hu => simp [Span.vals] at hu; rw [← hu]; simpa [Addr.add] using h.cell 3⟩⟩
set_option maxRecDepth 100000 in
set_option maxHeartbeats 2000000 in
theorem slow_any (s : Gait) (w : World) :
  Calls Tryz.prog 93 #[.agg #[.int .i64 s.pace.lo, .int .i64 s.pace.hi, .int .i64 s.step.lo, .int .i64 s.step.hi]] w fun e w' => e = .returned (.int .i64 (slowE s)) ∧ Below w.heap.size w w' := by
 go_enter Tryz.func93, Tryz.ntmps93
 go_wp2_with fail
 have Y0 := Blk.new (w.alloc (.cells #[.int .i64 s.pace.lo, .int .i64 s.pace.hi, .int .i64 s.step.lo, .int .i64 s.step.hi] 73)) 63 #[.int .i64 s.pace.lo, .int .i64 s.pace.hi, .int .i64 s.step.lo, .int .i64 s.step.hi]
 have B0 : Below w.heap.size w ((w.alloc (.cells #[.int .i64 s.pace.lo, .int .i64 s.pace.hi, .int .i64 s.step.lo, .int .i64 s.step.hi] 73)).alloc (.cells #[.int .i64 s.pace.lo, .int .i64 s.pace.hi, .int .i64 s.step.lo, .int .i64 s.step.hi] 63)) := ((Below.refl _ _).alloc (Nat.le_refl _) _).alloc (by simp) _
 rw [World.size_alloc] at Y0
 refine (spanned_any 20 _ 2 2 [s.pace, s.step] _ (two_spans Y0) (by decide)).mono ?_
 rintro e w1 ⟨rfl, hb1⟩
 have B1 := B0.trans (hb1.mono B0.size)
 clear Y0 hb1 B0
 cases hi : spansB 20 [s.pace, s.step] with
 | false =>
  have HI := lh hi
  clear hi
  go_wp2_with fail
  go_ret
  exact ⟨ret_int (by unfold slowE gaitB; rw [HI.out]; rfl), B1⟩
 | true =>
  have HI := lh hi
  clear hi
  go_wp2_with fail
  go_ret
  exact ⟨ret_int (by unfold slowE gaitB; rw [HI.out]; rfl), B1⟩
set_option maxRecDepth 100000 in
set_option maxHeartbeats 2000000 in
theorem dry_any (s : Skin) (w : World) :
  Calls Tryz.prog 90 #[.agg #[.int .i64 s.drops, .int .i64 s.pace.lo, .int .i64 s.pace.hi, .int .i64 s.step.lo, .int .i64 s.step.hi]] w fun e w' => e = .returned (.int .i64 (dryE s)) ∧ Below w.heap.size w w' := by
 go_enter Tryz.func90, Tryz.ntmps90
 go_wp2_with fail
 have X0 := (Blk.new w 65 #[.int .i64 s.drops, .int .i64 s.pace.lo, .int .i64 s.pace.hi, .int .i64 s.step.lo, .int .i64 s.step.hi]).alloc (.cells #[.int .i64 s.drops] 3)
 have B0 : Below w.heap.size w ((w.alloc (.cells #[.int .i64 s.drops, .int .i64 s.pace.lo, .int .i64 s.pace.hi, .int .i64 s.step.lo, .int .i64 s.step.hi] 65)).alloc (.cells #[.int .i64 s.drops] 3)) := ((Below.refl _ _).alloc (Nat.le_refl _) _).alloc (by simp) _
 refine (in1_any 0 100000 s.drops _ _ (by simp) (by simp [go_sem])).mono ?_
 rintro e w1 ⟨rfl, hb1⟩
 have X1 := X0.below hb1 X0.lt
 have B1 := B0.trans (hb1.mono B0.size)
 have x1 := X1.cell 1
 have x2 := X1.cell 2
 have x3 := X1.cell 3
 have x4 := X1.cell 4
 clear X0 hb1 B0 X1
 cases hi : inB 0 100000 [s.drops] with
 | false =>
  have HI := lh hi
  clear hi
  go_wp2_with fail
  go_ret
  exact ⟨ret_int (by unfold dryE skinB; rw [HI.out]; rfl), B1⟩
 | true =>
  have HI := lh hi
  clear hi
  go_wp2_with fail
  have Y1 := Blk.new w1 63 #[.int .i64 s.pace.lo, .int .i64 s.pace.hi, .int .i64 s.step.lo, .int .i64 s.step.hi]
  refine (spanned_any 50 _ 2 2 [s.pace, s.step] _ (two_spans Y1) (by decide)).mono ?_
  rintro e w2 ⟨rfl, hb2⟩
  have B2 := (B1.alloc B1.size (.cells #[.int .i64 s.pace.lo, .int .i64 s.pace.hi, .int .i64 s.step.lo, .int .i64 s.step.hi] 63)).trans (hb2.mono (by simp; have := B1.size; omega))
  clear Y1 hb2 x1 x2 x3 x4
  cases hj : spansB 50 [s.pace, s.step] with
  | false =>
   have HJ := lh hj
   clear hj
   go_wp2_with fail
   go_ret
   exact ⟨ret_int (by unfold dryE skinB; rw [HI.out, HJ.out]; rfl), B2⟩
  | true =>
   have HJ := lh hj
   clear hj
   go_wp2_with fail
   go_ret
   exact ⟨ret_int (by unfold dryE skinB; rw [HI.out, HJ.out]; rfl), B2⟩
end
section
theorem inB1_spec {lo hi x : Int} (h : inB lo hi [x] = true) : lo ≤ x ∧ x ≤ hi := by
 unfold inB at h
 simp at h
 omega
theorem inB2_spec {lo hi x y : Int} (h : inB lo hi [x, y] = true) : (lo ≤ x ∧ x ≤ hi) ∧ lo ≤ y ∧ y ≤ hi := by
 unfold inB at h
 simp at h
 omega
theorem upB_spec : ∀ {l : List Int} {last : Int}, upB last l = true → (∀ x ∈ l, last < x ∧ x ≤ 9999) ∧ l.Pairwise (· < ·)
 | [], _, _ => ⟨by simp, .nil⟩
 | x :: l, last, h => by
  simp only [upB, Bool.and_eq_true] at h
  have h1 := inB1_spec h.1
  obtain ⟨h2, h3⟩ := upB_spec h.2
  refine ⟨fun y hy => ?_, .cons (fun y hy => (h2 y hy).1) h3⟩
  rcases List.mem_cons.1 hy with rfl | hy
  ·omega
  ·have := h2 y hy; omega
theorem linksB_spec {t : Town} : ∀ {l : List Link} {last : Int}, linksB t last l = true → (∀ x ∈ l, last < x.id ∧ x.id ≤ 9999 ∧ (0 ≤ x.steps ∧ x.steps ≤ 500) ∧ (1 ≤ x.paces ∧ x.paces ≤ 2000) ∧ x.fr ≠ x.to ∧ x.fr ∈ t.places ∧ x.to ∈ t.places) ∧ l.Pairwise fun x y => x.id < y.id
 | [], _, _ => ⟨by simp, .nil⟩
 | x :: l, last, h => by
  simp only [linksB, linkB, Bool.and_eq_true] at h
  obtain ⟨⟨⟨⟨⟨h1, h2⟩, h3⟩, h4⟩, h5⟩, h6⟩ := h
  have a1 := inB1_spec h1
  have a2 := inB1_spec h2
  have a3 := inB1_spec h3
  have a4 : x.fr ≠ x.to := by simpa using h4
  have a5 : x.fr ∈ t.places ∧ x.to ∈ t.places := by
   unfold hasB at h5
   simp [memI] at h5
   exact h5
  obtain ⟨h7, h8⟩ := linksB_spec h6
  refine ⟨fun y hy => ?_, .cons (fun y hy => (h7 y hy).1) h8⟩
  rcases List.mem_cons.1 hy with rfl | hy
  ·exact ⟨by omega, by omega, a2, a3, a4, a5.1, a5.2⟩
  ·obtain ⟨b1, b2⟩ := h7 y hy
   exact ⟨by omega, b2⟩
structure GoodT (t : Town) : Prop where
 fine : Fine t
 nodup : t.places.Nodup
 up : t.places.Pairwise (· < ·)
 ids : ∀ v ∈ t.places, 1 ≤ v ∧ v ≤ 9999
 some_ : 1 ≤ t.places.length
 links : t.links.length ≤ 20
 lids : ∀ x ∈ t.links, 1 ≤ x.id ∧ x.id ≤ 9999
 ends : ∀ x ∈ t.links, x.fr ≠ x.to
theorem goodT {t : Town} (h : townB t = true) : GoodT t := by
 unfold townB sizeB at h
 simp only [Bool.and_eq_true, decide_eq_true_eq] at h
 obtain ⟨⟨⟨h1, h2⟩, h3⟩, h4⟩ := h
 have a1 := inB1_spec h1
 obtain ⟨b1, b2⟩ := upB_spec h3
 obtain ⟨c1, c2⟩ := linksB_spec h4
 refine ⟨⟨fun x hx => (c1 x hx).2.2.1, fun x hx => (c1 x hx).2.2.2.1, fun x hx => (c1 x hx).2.2.2.2.2, c2, by omega⟩, b2.imp fun h => by omega, b2, fun v hv => by have := b1 v hv; omega, by omega, h2, fun x hx => by have := c1 x hx; omega, fun x hx => (c1 x hx).2.2.2.2.1⟩
theorem spanB_spec {most : Int} {x : Span} (h : spanB most x = true) : (0 ≤ x.lo ∧ x.lo ≤ most) ∧ (0 ≤ x.hi ∧ x.hi ≤ most) ∧ x.lo ≤ x.hi := by
 unfold spanB at h
 simp only [Bool.and_eq_true, decide_eq_true_eq] at h
 have := inB2_spec h.1
 exact ⟨this.1, this.2, h.2⟩
theorem spansB_two {most : Int} {x y : Span} (h : spansB most [x, y] = true) : spanB most x = true ∧ spanB most y = true := by
 unfold spansB at h
 simpa [Bool.not_or] using h
structure GoodS (s : Skin) : Prop where
 drops : 0 ≤ s.drops ∧ s.drops ≤ 100000
 pace : (0 ≤ s.pace.lo ∧ s.pace.lo ≤ 50) ∧ (0 ≤ s.pace.hi ∧ s.pace.hi ≤ 50) ∧ s.pace.lo ≤ s.pace.hi
 step : (0 ≤ s.step.lo ∧ s.step.lo ≤ 50) ∧ (0 ≤ s.step.hi ∧ s.step.hi ≤ 50) ∧ s.step.lo ≤ s.step.hi
theorem goodS {s : Skin} (h : skinB s = true) : GoodS s := by
 unfold skinB at h
 simp only [Bool.and_eq_true] at h
 obtain ⟨h1, h2⟩ := spansB_two h.2
 exact ⟨inB1_spec h.1, spanB_spec h1, spanB_spec h2⟩
structure GoodG (s : Gait) : Prop where
 pace : (0 ≤ s.pace.lo ∧ s.pace.lo ≤ 20) ∧ (0 ≤ s.pace.hi ∧ s.pace.hi ≤ 20) ∧ s.pace.lo ≤ s.pace.hi
 step : (0 ≤ s.step.lo ∧ s.step.lo ≤ 20) ∧ (0 ≤ s.step.hi ∧ s.step.hi ≤ 20) ∧ s.step.lo ≤ s.step.hi
theorem goodG {s : Gait} (h : gaitB s = true) : GoodG s := by
 obtain ⟨h1, h2⟩ := spansB_two h
 exact ⟨spanB_spec h1, spanB_spec h2⟩
def lossP (pace step : Int) : Price := ⟨pace, 0, step⟩
def timeP (pace step : Int) : Price := ⟨pace, step, 0⟩
def freeP : Price := ⟨0, 0, 0⟩
theorem lossP_fair {a b : Int} (h1 : 0 ≤ a ∧ a ≤ 50) (h2 : 0 ≤ b ∧ b ≤ 50) : Fair (lossP a b) := ⟨h1, by simp [lossP], h2.1, by simp [lossP]; omega⟩
theorem timeP_fair {a b : Int} (h1 : 0 ≤ a ∧ a ≤ 50) (h2 : 0 ≤ b ∧ b ≤ 50) : Fair (timeP a b) := ⟨h1, h2.1, by simp [timeP], by simp [timeP]; omega⟩
theorem freeP_fair : Fair freeP := ⟨by simp [freeP], by simp [freeP], by simp [freeP], by simp [freeP]⟩
theorem askE_zero {t : Town} {l : List Int} (h : askE t l = 0) : townB t = true ∧ hasB t l = true := by
 unfold askE at h
 cases h1 : townB t <;> cases h2 : hasB t l <;> rw [h1, h2] at h <;> simp at h
 exact ⟨rfl, rfl⟩
theorem hasB_mem {t : Town} {l : List Int} (h : hasB t l = true) : ∀ v ∈ l, v ∈ t.places := by
 unfold hasB at h
 simp [memI] at h
 exact h
theorem or2_zero {a b : Int} (h : or2 a b = 0) : a = 0 ∧ b = 0 := by
 unfold or2 at h
 split at h
 ·exact ⟨by assumption, h⟩
 ·exact absurd h (by assumption)
theorem dryE_zero {s : Skin} (h : dryE s = 0) : skinB s = true := by
 unfold dryE at h
 cases h1 : skinB s <;> rw [h1] at h <;> simp at h ⊢
theorem slowE_zero {g : Gait} (h : slowE g = 0) : gaitB g = true := by
 unfold slowE at h
 cases h1 : gaitB g <;> rw [h1] at h <;> simp at h ⊢
theorem best_len {t : Town} {dk : Bool} {p : Price} {u v : Int} {c : Cost} {l : List Int} (hf : Fine t) (hp : Fair p) (h : best t dk p u v = some (c, l)) : l.length ≤ 9 := by
 have hF := best_first hf hp dk u v
 rw [h] at hF
 obtain ⟨c', l', h1, h2, h3⟩ := hF.1.short hf hp
 obtain ⟨rfl, rfl⟩ := key_inj (cmpL_antisymm h2 (hF.2 _ _ h1))
 have := hf.size
 rcases h3 with rfl | h3
 ·simp
 ·omega
end
section
open Go.RowKit Go.Shelf
def endE (t : Town) (s : Skin) (place : Int) (l : List Int) : Int := if or2 (askE t [place]) (dryE s) = 0 then betE t place l else or2 (askE t [place]) (dryE s)
def endV (t : Town) (s : Skin) (place : Int) (l : List Int) : Span := if endE t s place l = 0 then ⟨max 0 (s.drops - firstA t (lossP s.pace.hi s.step.hi) place l), max 0 (s.drops - firstA t (lossP s.pace.lo s.step.lo) place l)⟩ else ⟨0, 0⟩
def EndOut (w : World) (v : Span) (e : Int) (x : Ending) (w' : World) : Prop := x = .returned (.tuple #[.agg #[.int .i64 v.lo, .int .i64 v.hi], .int .i64 e]) ∧ Below w.heap.size w w'
set_option maxRecDepth 100000 in
set_option maxHeartbeats 16000000 in
theorem end_in (A : Option Addr) (n c : Nat) (A' : Option Addr) (m d : Nat) (t : Town) (s : Skin) (place : Int) (A2 : Option Addr) (k2 c2 : Nat) (l : List Int) (w : World)
  (hn : n ≤ 1000) (hm : m ≤ 1000) (hk2 : k2 ≤ 1000) (ht : TownAt w w.heap.size A n A' m t) (hr : IntsAt w w.heap.size A2 k2 l) (hL : Laid w) :
  CallsIn Fence.wide 9 Tryz.prog 36 #[.agg #[.slice A n c, .slice A' m d], .agg #[.int .i64 s.drops, .int .i64 s.pace.lo, .int .i64 s.pace.hi, .int .i64 s.step.lo, .int .i64 s.step.hi], .int .i64 place, .slice A2 k2 c2] w (EndOut w (endV t s place l) (endE t s place l)) := by
 have HT := lh ht
 have HR := lh hr
 have HL := lh hL
 have hl0 := hL.2.2.2
 clear ht hr hL
 refine callsIn_of_wp Tryz.func36 rfl trivial ?_ rfl
 simp only [Tryz.ntmps36, List.size_toArray, List.length_cons, List.length_nil, Nat.reduceAdd, Nat.reduceSub, Array.replicate_succ, Array.replicate_zero, List.push_toArray, List.append_toArray, List.nil_append, List.cons_append]
 gi_wp2
 have L0 := Lay.three w 25 #[.slice A n c, .slice A' m d] 65 #[.int .i64 s.drops, .int .i64 s.pace.lo, .int .i64 s.pace.hi, .int .i64 s.step.lo, .int .i64 s.step.hi] 63 #[.int .i64 0, .int .i64 0]
 have Ly := lh L0
 clear L0
 generalize (((w.alloc (.cells #[.slice A n c, .slice A' m d] 25)).alloc (.cells #[.int .i64 s.drops, .int .i64 s.pace.lo, .int .i64 s.pace.hi, .int .i64 s.step.lo, .int .i64 s.step.hi] 65)).alloc (.cells #[.int .i64 0, .int .i64 0] 63)) = w0 at *
 refine wpIn_flow_old [([true, true, false, false, true], 2), ([], 3), ([], 5), ([], 6), ([], 7)] [false, false, false, false, false, false, false, false, true] [] (by kernel_rfl) (by kernel_rfl) (by kernel_rfl) (below_drewN (Below.refl _ _) 1) ?_
 refine wpFlow_cons (A := ?AF1) rfl ?hq1 ?_
 case hq1 =>
  rintro σ hσ of hof hcl
  have HOF := lh hof
  clear hof hcl
  have t0 : ∀ z, (of z).cell? ⟨w.heap.size, 0, none⟩ = some (.slice A n c) := lyz Ly HOF 0 rfl 0
  have t1 : ∀ z, (of z).cell? ⟨w.heap.size, 1, none⟩ = some (.slice A' m d) := lyz Ly HOF 0 rfl 1
  have s0 : ∀ z, (of z).cell? ⟨w.heap.size + 1, 0, none⟩ = some (.int .i64 s.drops) := lyz Ly HOF 1 rfl 0
  have s1 : ∀ z, (of z).cell? ⟨w.heap.size + 1, 1, none⟩ = some (.int .i64 s.pace.lo) := lyz Ly HOF 1 rfl 1
  have s2 : ∀ z, (of z).cell? ⟨w.heap.size + 1, 2, none⟩ = some (.int .i64 s.pace.hi) := lyz Ly HOF 1 rfl 2
  have s3 : ∀ z, (of z).cell? ⟨w.heap.size + 1, 3, none⟩ = some (.int .i64 s.step.lo) := lyz Ly HOF 1 rfl 3
  have s4 : ∀ z, (of z).cell? ⟨w.heap.size + 1, 4, none⟩ = some (.int .i64 s.step.hi) := lyz Ly HOF 1 rfl 4
  have hfw := hfT
  simp only [pickB]
  repeat (gi_big_quiet_step (fail))
  refine wpQuietIn_nil ?_
  exact rfl
 intro W1 hW1
 gi_wp2
 refine ⟨trivial, (Below.refl _ _).alloc (Nat.le_refl _) _, ?_⟩
 have HLay1 := lh ((Ly.out.below hW1).below ((Below.refl _ _).alloc (Nat.le_refl _) (.cells #[.int .i64 place] 3)))
 have HPl : Hid (IntsAt (W1.alloc (.cells #[.int .i64 place] 3)) (W1.alloc (.cells #[.int .i64 place] 3)).heap.size (some ⟨W1.heap.size, 0, none⟩) 1 [place]) := lh (IntsAt.new W1 3 [place] _ (by simp))
 obtain ⟨P1, hP1⟩ : ∃ P1, W1.heap.size = P1 := ⟨_, rfl⟩
 rw [hP1] at HPl ⊢
 generalize (W1.alloc (.cells #[.int .i64 place] 3)) = V1 at *
 clear hW1
 refine wpFlow_cons rfl Quietly.none ?_
 intro W2 hW2
 have HLay2 := lh (HLay1.out.below hW2)
 have hlw := (HLay2.out.blk 1 rfl).lt
 gi_wp2
 refine ⟨trivial, (callsIn_wide.2 (asked_any A n c A' m d t (some ⟨P1, 0, none⟩) 1 1 [place] W2 (by unfold maxLen; omega) (by unfold maxLen; omega) (by decide) ((HT.out.below HLay2.out.1).more HLay2.out.1.size) ((HPl.out.below hW2).more hW2.size) (HL.out.below HLay2.out.1 hl0))).mono ?_⟩
 rintro e W3 ⟨rfl, hb3⟩
 gi_wp2
 refine ⟨trivial, hb3, ?_⟩
 have HLay3 := lh (HLay2.out.below hb3)
 clear hb3 hW2 HLay1 HLay2
 refine wpFlow_cons rfl Quietly.none ?_
 intro W4 hW4
 have HLay4 := lh (HLay3.out.below hW4)
 gi_wp2
 refine ⟨trivial, (callsIn_wide.2 (dry_any s W4)).mono ?_⟩
 rintro e W5 ⟨rfl, hb5⟩
 gi_wp2
 refine ⟨trivial, hb5, ?_⟩
 have HLay5 := lh (HLay4.out.below hb5)
 clear hb5 hW4 HLay3 HLay4
 refine wpFlow_cons rfl Quietly.none ?_
 intro W6 hW6
 gi_wp2
 refine ⟨trivial, (Below.refl _ _).alloc (Nat.le_refl _) _, ?_⟩
 have HLay6 := lh ((HLay5.out.below hW6).below ((Below.refl _ _).alloc (Nat.le_refl _) (.cells #[.int .i64 (askE t [place]), .int .i64 (dryE s)] 30)))
 have HOr := lh (Blk.new W6 30 #[.int .i64 (askE t [place]), .int .i64 (dryE s)])
 obtain ⟨P2, hP2⟩ : ∃ P2, W6.heap.size = P2 := ⟨_, rfl⟩
 rw [hP2] at HOr ⊢
 generalize (W6.alloc (.cells #[.int .i64 (askE t [place]), .int .i64 (dryE s)] 30)) = V6 at *
 clear hW6 HLay5
 refine wpFlow_cons rfl Quietly.none ?_
 intro W7 hW7
 gi_wp2
 refine ⟨trivial, (callsIn_wide.2 (or_any (askE t [place]) (dryE s) P2 W7 (HOr.out.below hW7 HOr.out.lt))).mono ?_⟩
 rintro e W8 ⟨rfl, rfl⟩
 gi_wp2
 refine ⟨trivial, Below.refl _ _, ?_⟩
 have HLay7 := lh (HLay6.out.below hW7)
 clear hW7 HLay6 HOr
 obtain ⟨ee, hee⟩ : ∃ ee, or2 (askE t [place]) (dryE s) = ee := ⟨_, rfl⟩
 rw [hee]
 have HEE := lh hee
 clear hee
 refine wpFlow_nil (A := ?AF9) ?hq9 ?_
 case hq9 =>
  rintro σ hσ of hof hcl
  simp only [pickB]
  repeat (gi_big_quiet_step (fail))
  refine wpQuietIn_nil ?_
  exact rfl
 intro W9 hW9
 simp only [pickB]
 refine wpT_nil ?_
 have HLay9 := lh (HLay7.out.below hW9)
 clear hW9 HLay7
 have r0 := (HLay9.out.blk 2 rfl).cell 0
 have r1 := (HLay9.out.blk 2 rfl).cell 1
 have z0 := (HLay9.out.blk 2 rfl).frozen 0
 have z1 := (HLay9.out.blk 2 rfl).frozen 1
 have hl2 := HLay9.out.lt 2 rfl
 by_cases h0 : ee = 0
 ·subst h0
  have HOK := lh (or2_zero HEE.out)
  obtain ⟨htb, hhas⟩ := askE_zero HOK.out.1
  have HG := lh (goodT htb)
  have HGS := lh (goodS (dryE_zero HOK.out.2))
  have hm20 : m ≤ 20 := by have := HG.out.links; have := HT.out.links.len; omega
  clear htb hhas
  gi_wp2
  clear r0 r1 z0 z1 hl2 hlw Ly
  refine wpIn_flow_new [([true, true, true, true, true, true, true, true, true, false, true, true, true, true, true, true], 9), ([], 16), ([], 17)] [false, false, false, false, false, false, false, false, false, false, false, false, false, false, false, false, false, false, true, true, true, false, false, true] [false, false, false, false, false, false, false, false, false, false, false, false, false, false, false, false, false, false, false, false, false, false, true] 21 (fun b => .pointer (some ⟨b, 0, none⟩)) 63 #[.int .i64 0, .int .i64 0] (by kernel_rfl) (by kernel_rfl) (by kernel_rfl) (below_drewN (Below.refl _ _) 1) rfl rfl rfl (fun _ _ => rfl) (fun _ _ => rfl) ?_
  refine wpFlow_cons (A := ?AF2) rfl ?hq2 ?_
  case hq2 =>
   rintro σ hσ of hof hcl
   have HOF := lh hof
   clear hof hcl
   have t0 : ∀ z, (of z).cell? ⟨w.heap.size, 0, none⟩ = some (.slice A n c) := fun z => ((HLay9.out.below (HOF.out z)).blk 0 rfl).cell 0
   have t1 : ∀ z, (of z).cell? ⟨w.heap.size, 1, none⟩ = some (.slice A' m d) := fun z => ((HLay9.out.below (HOF.out z)).blk 0 rfl).cell 1
   have s1 : ∀ z, (of z).cell? ⟨w.heap.size + 1, 1, none⟩ = some (.int .i64 s.pace.lo) := fun z => ((HLay9.out.below (HOF.out z)).blk 1 rfl).cell 1
   have s2 : ∀ z, (of z).cell? ⟨w.heap.size + 1, 2, none⟩ = some (.int .i64 s.pace.hi) := fun z => ((HLay9.out.below (HOF.out z)).blk 1 rfl).cell 2
   have s3 : ∀ z, (of z).cell? ⟨w.heap.size + 1, 3, none⟩ = some (.int .i64 s.step.lo) := fun z => ((HLay9.out.below (HOF.out z)).blk 1 rfl).cell 3
   have s4 : ∀ z, (of z).cell? ⟨w.heap.size + 1, 4, none⟩ = some (.int .i64 s.step.hi) := fun z => ((HLay9.out.below (HOF.out z)).blk 1 rfl).cell 4
   have hfw := hfT
   simp only [pickB]
   repeat (gi_big_quiet_step (fail))
   refine wpQuietIn_nil ?_
   exact rfl
  intro W10 hW10
  gi_wp2
  refine ⟨trivial, (callsIn_wide.2 (drips_any s.pace.lo s.step.lo W10 (by have := HGS.out.pace; omega) (by have := HGS.out.step; omega))).mono ?_⟩
  rintro e W11 ⟨⟨b1, b2, rfl, hp1⟩, hb11⟩
  have HP1 := lh hp1
  have HLay11 := lh ((HLay9.out.below hW10).below hb11)
  gi_wp2
  refine ⟨trivial, hb11, ?_⟩
  clear hp1 hW10 hb11
  refine wpFlow_cons rfl Quietly.none ?_
  intro W12 hW12
  gi_wp2
  refine ⟨trivial, (callsIn_wide.2 (drips_any s.pace.hi s.step.hi W12 (by have := HGS.out.pace; omega) (by have := HGS.out.step; omega))).mono ?_⟩
  rintro e W13 ⟨⟨b3, b4, rfl, hp2⟩, hb13⟩
  have HP2 := lh hp2
  have HP13 := lh (HP1.out.below (hW12.trans (hb13.mono hW12.size)))
  have HLay13 := lh ((HLay11.out.below hW12).below hb13)
  gi_wp2
  refine ⟨trivial, hb13, ?_⟩
  clear hp2 hW12 hb13 HP1
  refine wpFlow_cons rfl Quietly.none ?_
  intro W14 hW14
  have HLay14 := lh (HLay13.out.below hW14)
  gi_wp2
  refine ⟨trivial, (callsIn_wide.2 (between_any A n c A' m d _ _ _ _ (lossP s.pace.lo s.step.lo) (lossP s.pace.hi s.step.hi) t place A2 k2 c2 l W14 hm20 hk2 ((HT.out.links.below HLay14.out.1).more HLay14.out.1.size) (HP13.out.below hW14) (HP2.out.below hW14) HG.out.fine (lossP_fair (by have := HGS.out.pace; omega) (by have := HGS.out.step; omega)) (lossP_fair (by have := HGS.out.pace; omega) (by have := HGS.out.step; omega)) ((HR.out.below HLay14.out.1).more HLay14.out.1.size))).mono ?_⟩
  rintro e W15 ⟨rfl, hb15⟩
  have HLay15 := lh (HLay14.out.below hb15)
  gi_wp2
  refine ⟨trivial, hb15, ?_⟩
  clear hW14 hb15 HP2 HP13 HLay11 HLay13 HLay14
  refine wpFlow_nil (A := ?AF3) ?hq3 ?_
  case hq3 =>
   rintro σ hσ of hof hcl
   simp only [pickB]
   repeat (gi_big_quiet_step (fail))
   refine wpQuietIn_nil ?_
   exact rfl
  intro b W16 hW16 hbg hbb _
  have HLay16 := lh ((HLay15.out.below hW16).add (Nat.le_trans HLay9.out.1.size hbg) hbb)
  have HBG := lh hbg
  have c0 := hbb.cell 0
  have c1 := hbb.cell 1
  have z0 := hbb.frozen 0
  have z1 := hbb.frozen 1
  have hbl := hbb.lt
  clear hW16 hbg hbb HLay15
  simp only [pickB]
  refine wpT_cons ?_
  gi_wp2
  refine wpT_nil ?_
  have HLay17 := lh ((HLay16.out.setLast (fun p hp e => by have := (HLay9.out.2 p hp).2.lt; have := HBG.out; omega) 0 (.int .i64 (firstA t (lossP s.pace.lo s.step.lo) place l))).setLast (fun p hp e => by have := (HLay9.out.2 p hp).2.lt; have := HBG.out; omega) 1 (.int .i64 (firstA t (lossP s.pace.hi s.step.hi) place l)))
  generalize ((W16.setCell ⟨b, 0, none⟩ (.int .i64 (firstA t (lossP s.pace.lo s.step.lo) place l))).setCell ⟨b, 1, none⟩ (.int .i64 (firstA t (lossP s.pace.hi s.step.hi) place l))) = W17 at *
  clear c0 c1 z0 z1 hbl HLay16
  have hb1 := firstA_bound HG.out.fine (lossP_fair (a := s.pace.lo) (b := s.step.lo) (by have := HGS.out.pace; omega) (by have := HGS.out.step; omega)) place l
  have hb2 := firstA_bound HG.out.fine (lossP_fair (a := s.pace.hi) (b := s.step.hi) (by have := HGS.out.pace; omega) (by have := HGS.out.step; omega)) place l
  have hv : ∀ e', betE t place l = e' → endE t s place l = e' := fun e' h => by unfold endE; rw [HEE.out, if_pos rfl, h]
  have HV := lh hv
  clear hv
  have HVV := lh (show endV t s place l = if endE t s place l = 0 then ⟨max 0 (s.drops - firstA t (lossP s.pace.hi s.step.hi) place l), max 0 (s.drops - firstA t (lossP s.pace.lo s.step.lo) place l)⟩ else ⟨0, 0⟩ from rfl)
  generalize firstA t (lossP s.pace.lo s.step.lo) place l = fa at *
  generalize firstA t (lossP s.pace.hi s.step.hi) place l = fb at *
  generalize betE t place l = eb at *
  obtain ⟨hd0, hd1⟩ := HGS.out.drops
  obtain ⟨hb10, hb11⟩ := hb1
  obtain ⟨hb20, hb21⟩ := hb2
  have r0 := (HLay17.out.blk 2 rfl).cell 0
  have r1 := (HLay17.out.blk 2 rfl).cell 1
  have z0 := (HLay17.out.blk 2 rfl).frozen 0
  have z1 := (HLay17.out.blk 2 rfl).frozen 1
  have s0 := (HLay17.out.blk 1 rfl).cell 0
  have q0 := (HLay17.out.blk 3 rfl).cell 0
  have q1 := (HLay17.out.blk 3 rfl).cell 1
  have hl1 := HLay17.out.lt 1 rfl
  have hl2 := HLay17.out.lt 2 rfl
  have hl3 := HLay17.out.lt 3 rfl
  by_cases he0 : eb = 0
  ·subst he0
   gi_wp2
   all_goals
    have he := HV.out 0 rfl
    have hvv : endV t s place l = ⟨max 0 (s.drops - fb), max 0 (s.drops - fa)⟩ := by rw [HVV.out, he, if_pos rfl]
    clear r0 r1 z0 z1 s0 q0 q1
    first
    | (have R1 := ret2 (HLay17.out.blk 2 rfl) HLay17.out.1 (by omega) (.int .i64 (max 0 (s.drops - fb))) (.int .i64 (max 0 (s.drops - fa)))
       have y0 := R1.1.cell 0
       have y1 := R1.1.cell 1
       exact bodyPost_ret (v := .tuple #[.agg #[.int .i64 (max 0 (s.drops - fb)), .int .i64 (max 0 (s.drops - fa))], .int .i64 0]) (by simp [results, Tryz.results36, go_sem, y0, y1]) rfl ⟨by rw [he, hvv], R1.2⟩)
    | (have hx : max 0 (s.drops - fb) = 0 := by omega
       have hy : max 0 (s.drops - fa) = 0 := by omega
       have R1 := ret2 (HLay17.out.blk 2 rfl) HLay17.out.1 (by omega) (.int .i64 (0)) (.int .i64 (0))
       have y0 := R1.1.cell 0
       have y1 := R1.1.cell 1
       exact bodyPost_ret (v := .tuple #[.agg #[.int .i64 (0), .int .i64 (0)], .int .i64 0]) (by simp [results, Tryz.results36, go_sem, y0, y1]) rfl ⟨by rw [he, hvv, hx, hy], R1.2⟩)
    | (have hx : max 0 (s.drops - fb) = 0 := by omega
       have hy : max 0 (s.drops - fa) = s.drops - fa := by omega
       have R1 := ret2 (HLay17.out.blk 2 rfl) HLay17.out.1 (by omega) (.int .i64 (0)) (.int .i64 (s.drops - fa))
       have y0 := R1.1.cell 0
       have y1 := R1.1.cell 1
       exact bodyPost_ret (v := .tuple #[.agg #[.int .i64 (0), .int .i64 (s.drops - fa)], .int .i64 0]) (by simp [results, Tryz.results36, go_sem, y0, y1]) rfl ⟨by rw [he, hvv, hx, hy], R1.2⟩)
    | (have hx : max 0 (s.drops - fb) = s.drops - fb := by omega
       have hy : max 0 (s.drops - fa) = 0 := by omega
       have R1 := ret2 (HLay17.out.blk 2 rfl) HLay17.out.1 (by omega) (.int .i64 (s.drops - fb)) (.int .i64 (0))
       have y0 := R1.1.cell 0
       have y1 := R1.1.cell 1
       exact bodyPost_ret (v := .tuple #[.agg #[.int .i64 (s.drops - fb), .int .i64 (0)], .int .i64 0]) (by simp [results, Tryz.results36, go_sem, y0, y1]) rfl ⟨by rw [he, hvv, hx, hy], R1.2⟩)
    | (have hx : max 0 (s.drops - fb) = s.drops - fb := by omega
       have hy : max 0 (s.drops - fa) = s.drops - fa := by omega
       have R1 := ret2 (HLay17.out.blk 2 rfl) HLay17.out.1 (by omega) (.int .i64 (s.drops - fb)) (.int .i64 (s.drops - fa))
       have y0 := R1.1.cell 0
       have y1 := R1.1.cell 1
       exact bodyPost_ret (v := .tuple #[.agg #[.int .i64 (s.drops - fb), .int .i64 (s.drops - fa)], .int .i64 0]) (by simp [results, Tryz.results36, go_sem, y0, y1]) rfl ⟨by rw [he, hvv, hx, hy], R1.2⟩)
  ·have h1 : (eb != 0) = true := by simpa using he0
   have HE0 := lh he0
   clear he0
   gi_wp2
   have R1 := ret2 (HLay17.out.blk 2 rfl) HLay17.out.1 (by omega) (.int .i64 0) (.int .i64 0)
   have y0 := R1.1.cell 0
   have y1 := R1.1.cell 1
   have he := HV.out eb rfl
   have hv : endV t s place l = ⟨0, 0⟩ := by rw [HVV.out, he, if_neg HE0.out]
   exact bodyPost_ret (v := .tuple #[.agg #[.int .i64 0, .int .i64 0], .int .i64 eb]) (by simp [results, Tryz.results36, go_sem, y0, y1]) rfl ⟨by rw [he, hv], R1.2⟩
 ·have h1 : (ee != 0) = true := by simpa using h0
  have HE0 := lh h0
  clear h0
  gi_wp2
  have R1 := ret2 (HLay9.out.blk 2 rfl) HLay9.out.1 (by omega) (.int .i64 0) (.int .i64 0)
  have y0 := R1.1.cell 0
  have y1 := R1.1.cell 1
  have he : endE t s place l = ee := by unfold endE; rw [HEE.out, if_neg HE0.out]
  have hv : endV t s place l = ⟨0, 0⟩ := by unfold endV; rw [he, if_neg HE0.out]
  exact bodyPost_ret (v := .tuple #[.agg #[.int .i64 0, .int .i64 0], .int .i64 ee]) (by simp [results, Tryz.results36, go_sem, y0, y1]) rfl ⟨by rw [he, hv], R1.2⟩
theorem end_any (A : Option Addr) (n c : Nat) (A' : Option Addr) (m d : Nat) (t : Town) (s : Skin) (place : Int) (A2 : Option Addr) (k2 c2 : Nat) (l : List Int) (w : World)
  (hn : n ≤ 1000) (hm : m ≤ 1000) (hk2 : k2 ≤ 1000) (ht : TownAt w w.heap.size A n A' m t) (hr : IntsAt w w.heap.size A2 k2 l) (hL : Laid w) :
  Calls Tryz.prog 36 #[.agg #[.slice A n c, .slice A' m d], .agg #[.int .i64 s.drops, .int .i64 s.pace.lo, .int .i64 s.pace.hi, .int .i64 s.step.lo, .int .i64 s.step.hi], .int .i64 place, .slice A2 k2 c2] w (EndOut w (endV t s place l) (endE t s place l)) :=
 callsIn_wide.1 (end_in A n c A' m d t s place A2 k2 c2 l w hn hm hk2 ht hr hL)
end
end Go.Proofs.YtahkjagjcogeiaaGreatDoor
