/- MixMoves: whatever the mixed water and the whole numbers, the law answers true. No conditions. -/
import Derived.Sort.CutIn
import Derived.Sort.WalkA
import Derived.Lib.SmallJoins
import Derived.LaidHandle
import Derived.ChangeArms
import Derived.ChangeSame
import Derived.Test.YthofngceiecniaaRows
import Derived.OpenShut
import Derived.ShutString
import Derived.ChangeOld
import Derived.Test.YthofngceiecniaaMxM10
set_option linter.unusedVariables false
/- The answer's Moved. -/
namespace Go.Proofs.Ythofngceiecniaa
open Go.RowKit
inductive FrMvA (v1 v2 v3 v6 v8 v10 v12 v13 v62 v63 v64 : Value) : Act → Prop
 | mk (u0 u4 u5 u7 u9 u11 u14 u15 u16 u17 u18 u19 u20 u21 u22 u23 u24 u25 u26 u27 u28 u29 u30 u31 u32 u33 u34 u35 u36 u37 u38 u39 u40 u41 u42 u43 u44 u45 u46 u47 u48 u49 u50 u51 u52 u53 u54 u55 u56 u57 u58 u59 u60 u61 u65 u66 u67 u68 u69 u70 u71 u72 u73 u74 u75 u76 u77 u78 u79 u80 u81 u82 u83 u84 u85 u86 u87 u88 u89 u90 u91 u92 u93 u94 u95 u96 u97 u98 u99 u100 u101 u102 u103 u104 u105 u106 u107 u108 u109 : Value) : FrMvA v1 v2 v3 v6 v8 v10 v12 v13 v62 v63 v64 { tmps := #[u0, v1, v2, v3, u4, u5, v6, u7, v8, u9, v10, u11, v12, v13, u14, u15, u16, u17, u18, u19, u20, u21, u22, u23, u24, u25, u26, u27, u28, u29, u30, u31, u32, u33, u34, u35, u36, u37, u38, u39, u40, u41, u42, u43, u44, u45, u46, u47, u48, u49, u50, u51, u52, u53, u54, u55, u56, u57, u58, u59, u60, u61, v62, v63, v64, u65, u66, u67, u68, u69, u70, u71, u72, u73, u74, u75, u76, u77, u78, u79, u80, u81, u82, u83, u84, u85, u86, u87, u88, u89, u90, u91, u92, u93, u94, u95, u96, u97, u98, u99, u100, u101, u102, u103, u104, u105, u106, u107, u108, u109], defers := [] }
inductive FrMvB (v1 v2 v3 v6 v8 v10 v12 v13 v16 v17 v18 v62 v63 v64 : Value) : Act → Prop
 | mk (u0 u4 u5 u7 u9 u11 u14 u15 u19 u20 u21 u22 u23 u24 u25 u26 u27 u28 u29 u30 u31 u32 u33 u34 u35 u36 u37 u38 u39 u40 u41 u42 u43 u44 u45 u46 u47 u48 u49 u50 u51 u52 u53 u54 u55 u56 u57 u58 u59 u60 u61 u65 u66 u67 u68 u69 u70 u71 u72 u73 u74 u75 u76 u77 u78 u79 u80 u81 u82 u83 u84 u85 u86 u87 u88 u89 u90 u91 u92 u93 u94 u95 u96 u97 u98 u99 u100 u101 u102 u103 u104 u105 u106 u107 u108 u109 : Value) : FrMvB v1 v2 v3 v6 v8 v10 v12 v13 v16 v17 v18 v62 v63 v64 { tmps := #[u0, v1, v2, v3, u4, u5, v6, u7, v8, u9, v10, u11, v12, v13, u14, u15, v16, v17, v18, u19, u20, u21, u22, u23, u24, u25, u26, u27, u28, u29, u30, u31, u32, u33, u34, u35, u36, u37, u38, u39, u40, u41, u42, u43, u44, u45, u46, u47, u48, u49, u50, u51, u52, u53, u54, u55, u56, u57, u58, u59, u60, u61, v62, v63, v64, u65, u66, u67, u68, u69, u70, u71, u72, u73, u74, u75, u76, u77, u78, u79, u80, u81, u82, u83, u84, u85, u86, u87, u88, u89, u90, u91, u92, u93, u94, u95, u96, u97, u98, u99, u100, u101, u102, u103, u104, u105, u106, u107, u108, u109], defers := [] }

set_option maxRecDepth 100000 in
set_option maxHeartbeats 16000000 in
theorem rmvd_in (Av : Option Addr) (nv cv : Nat) (Aa : Option Addr) (na ca : Nat) (At : Option Addr) (nt ct : Nat) (m : Mix) (act fountain : Int) (w : World) (h : MixS w Av nv Aa na At nt m) :
  CallsIn Fence.wide 9 Try.prog 10 #[.agg #[.int .i64 m.fountains, .slice Av nv cv, .slice Aa na ca, .slice At nt ct], .int .i64 act, .int .i64 fountain] w (MovedOut w m act fountain) := by
 have HM := Lib.hid h
 have HLA := Lib.hid h.at_.lenA
 have HLV := Lib.hid h.at_.lenV
 clear h
 refine callsIn_of_wp Try.func10 rfl trivial ?_ rfl
 simp only [Try.ntmps10, List.size_toArray, List.length_cons, List.length_nil, Nat.reduceAdd, Nat.reduceSub, Array.replicate_succ, Array.replicate_zero, List.push_toArray, List.append_toArray, List.nil_append, List.cons_append]
 gi_upto_region 1 with fail
 have HLay := Lib.hid (Lay.two w 26 #[.int .i64 m.fountains, .slice Av nv cv, .slice Aa na ca, .slice At nt ct] 30 #[.int .i64 0, .int .i64 0])
 generalize ((w.alloc (.cells #[.int .i64 m.fountains, .slice Av nv cv, .slice Aa na ca, .slice At nt ct] 26)).alloc (.cells #[.int .i64 0, .int .i64 0] 30)) = w0 at *
 have x0_0 := (HLay.out.blk 0 rfl).cell 0
 have x0_1 := (HLay.out.blk 0 rfl).cell 1
 have x0_2 := (HLay.out.blk 0 rfl).cell 2
 have x0_3 := (HLay.out.blk 0 rfl).cell 3
 have l0_ := HLay.out.lt 0 rfl
 gi_wp2
 clear x0_0 x0_1 x0_2 x0_3 l0_
 refine ⟨trivial, (callsIn_wide.2 (rmix_any Av nv cv Aa na ca At nt ct m w0 (HM.out.up HLay.out.1))).mono ?_⟩
 rintro e W1 ⟨rfl, hb⟩
 replace HLay := Lib.hid (HLay.out.below hb)
 clear hb
 cases hk : okMix m with
 | false =>
  have HK := Lib.hid hk
  clear hk
  have x1_0 := (HLay.out.blk 1 rfl).cell 0
  have z1_0 := (HLay.out.blk 1 rfl).frozen 0
  have x1_1 := (HLay.out.blk 1 rfl).cell 1
  have z1_1 := (HLay.out.blk 1 rfl).frozen 1
  have l1_ := HLay.out.lt 1 rfl
  gi_wp2
  have R2 := ret2' (HLay.out.blk 1 rfl) HLay.out.1 (HLay.out.ge 1 rfl) (.int .i64 (0)) (.int .i64 (0))
  have v0 := R2.1.cell 0
  have v1 := R2.1.cell 1
  refine bodyPost_ret (v := .tuple #[.agg #[.int .i64 (0), .int .i64 (0)], .int .i64 (40)]) (by simp [results, Try.results10, go_sem, v0, v1]) rfl ?_
  exact ⟨0, 0, 40, rfl, .inl ⟨by rw [act_no HK.out]; decide, rfl, (act_no HK.out).symm⟩, R2.2.1⟩
 | true =>
  have HK := Lib.hid hk
  have HV := Lib.hid (okMix_vess hk)
  clear hk
  have x0_0 := (HLay.out.blk 0 rfl).cell 0
  have x0_1 := (HLay.out.blk 0 rfl).cell 1
  have x0_2 := (HLay.out.blk 0 rfl).cell 2
  have x0_3 := (HLay.out.blk 0 rfl).cell 3
  have l0_ := HLay.out.lt 0 rfl
  gi_wp2
  clear x0_0 x0_1 x0_2 x0_3 l0_
  refine ⟨trivial, (callsIn_wide.2 (within_any act 1 na W1)).mono ?_⟩
  rintro e W8 ⟨rfl, rfl⟩
  by_cases hr : 1 ≤ act ∧ act ≤ na
  ·
   have hi : wiB act 1 na = true := decide_eq_true hr
   rw [hi]
   have HR := Lib.hid hr
   clear hr hi
   have x0_0 := (HLay.out.blk 0 rfl).cell 0
   have x0_1 := (HLay.out.blk 0 rfl).cell 1
   have x0_2 := (HLay.out.blk 0 rfl).cell 2
   have x0_3 := (HLay.out.blk 0 rfl).cell 3
   have l0_ := HLay.out.lt 0 rfl
   gi_wp2
   clear x0_0 x0_1 x0_2 x0_3 l0_
   refine ⟨trivial, (callsIn_wide.2 (within_any fountain 1 m.fountains W1)).mono ?_⟩
   rintro e W8 ⟨rfl, rfl⟩
   by_cases hq : 1 ≤ fountain ∧ fountain ≤ m.fountains
   ·
    have hi : wiB fountain 1 m.fountains = true := decide_eq_true hq
    rw [hi]
    have HQ : Hid ((1 ≤ act ∧ act ≤ m.acts.length) ∧ 1 ≤ fountain ∧ fountain ≤ m.fountains) := Lib.hid ⟨by rw [HLA.out]; exact HR.out, hq⟩
    clear hq hi
    have x0_0 := (HLay.out.blk 0 rfl).cell 0
    have x0_1 := (HLay.out.blk 0 rfl).cell 1
    have x0_2 := (HLay.out.blk 0 rfl).cell 2
    have x0_3 := (HLay.out.blk 0 rfl).cell 3
    have l0_ := HLay.out.lt 0 rfl
    gi_wp2
    clear x0_0 x0_1 x0_2 x0_3 l0_
    refine ⟨trivial, (callsIn_wide.2 (callsIn_wide.1 (rtruths_in Av nv cv Aa na ca At nt ct m fountain W1 (HM.out.up HLay.out.1) HK.out))).mono ?_⟩
    rintro e W2 ⟨L, rs, bs, g, n, N, b, rfl, hN, hN9, hL, hn, hBR, hT, hb0⟩
    have hb := hBR.bel
    replace HLay := Lib.hid (HLay.out.below hb)
    clear hb
    have HNN := Lib.hid hN
    have HN9 := Lib.hid hN9
    have HL := Lib.hid hL
    have HN := Lib.hid hn
    have HBR := Lib.hid hBR
    have HTAB := Lib.hid hT
    have HB0_ := Lib.hid hb0
    clear hN hN9 hL hn hBR hT hb0
    cases b with
    | false =>
     have x1_0 := (HLay.out.blk 1 rfl).cell 0
     have z1_0 := (HLay.out.blk 1 rfl).frozen 0
     have x1_1 := (HLay.out.blk 1 rfl).cell 1
     have z1_1 := (HLay.out.blk 1 rfl).frozen 1
     have l1_ := HLay.out.lt 1 rfl
     gi_wp2
     have R2 := ret2' (HLay.out.blk 1 rfl) HLay.out.1 (HLay.out.ge 1 rfl) (.int .i64 (0)) (.int .i64 (0))
     have v0 := R2.1.cell 0
     have v1 := R2.1.cell 1
     refine bodyPost_ret (v := .tuple #[.agg #[.int .i64 (0), .int .i64 (0)], .int .i64 (8)]) (by simp [results, Try.results10, go_sem, v0, v1]) rfl ?_
     exact ⟨0, 0, 8, rfl, .inr ⟨act_ok1 HK.out HQ.out, L, HL.out, .inl ⟨fun h => (by have := HB0_.out.2 h; cases this), rfl, rfl⟩⟩, R2.2.1⟩
    | true =>
     have HT0 := Lib.hid (HB0_.out.1 rfl)
     clear HB0_
     obtain ⟨t, ht⟩ : ∃ t : Nat, act = (t : Int) + 1 := ⟨(act - 1).toNat, by have := HR.out; omega⟩
     subst ht
     have hlt : t < na := by have := HR.out; omega
     have HLT := Lib.hid hlt
     have HTB : Hid (TbOk ⟨0, none, 0, 0, none, 0, 0, none, 0, 0, none, 0, 0, m, L⟩) := Lib.hid ⟨HK.out, HL.out⟩
     obtain ⟨r, row, hr, hrow⟩ := rowLen (i := t) (r := 0) HBR.out HTAB.out (by have h1 := HN.out; have h2 := HLA.out; omega)
     have HRR := Lib.hid hr
     have HRW := Lib.hid hrow
     obtain ⟨r2, row2, hr2, hrow2⟩ := rowLen (i := t + 1) (r := 0) HBR.out HTAB.out (by have h1 := HN.out; have h2 := HLA.out; omega)
     have HRR2 := Lib.hid hr2
     have HRW2 := Lib.hid hrow2
     clear hr hrow hr2 hrow2
     have x0_0 := (HLay.out.blk 0 rfl).cell 0
     have x0_1 := (HLay.out.blk 0 rfl).cell 1
     have x0_2 := (HLay.out.blk 0 rfl).cell 2
     have x0_3 := (HLay.out.blk 0 rfl).cell 3
     have l0_ := HLay.out.lt 0 rfl
     gi_wp2
     clear x0_0 x0_1 x0_2 x0_3 l0_
     refine ⟨trivial, (callsIn_wide.2 (callsIn_wide.1 (rplayed_in Av nv cv Aa na ca At nt ct m W2 (HM.out.up HLay.out.1) (okMix_ves HK.out) (by have h1 := HV.out; have h2 := HLV.out; omega) (by have h1 := HV.out; have h2 := HLA.out; omega)))).mono ?_⟩
     rintro e W3 ⟨hb, A, n0, c0, b0, L0, rfl, hpl⟩
     replace HLay := Lib.hid (HLay.out.below hb)
     replace HBR := Lib.hid (HBR.out.below hb)
     clear hb
     have hpl2 : b0 = true ∧ allM m m.acts = some L0 ∧ Reads W3 W3.heap.size 4 A n0 (L0.flatMap heldC) := by
      rcases hpl with h | ⟨_, _, h⟩
      ·exact h
      ·rw [HL.out] at h
       cases h
     clear hpl
     obtain ⟨rfl, hL0, hrd⟩ := hpl2
     obtain rfl : L = L0 := by have h1 := HL.out; rw [hL0] at h1; exact (Option.some.inj h1).symm
     have hn0 : n0 = n := by
      have h1 := allM_len _ _ _ hL0
      have h2 := recs_n heldC_k (by omega) hrd
      have h3 := HN.out
      omega
     subst hn0
     obtain ⟨b, off, x, hAv, hbB, hx, c0_, c1_, c2_, c3_⟩ := (HM.out.at_.below HLay.out.1).act hlt
     obtain ⟨all, hA⟩ := HTB.out.at_ hx
     obtain ⟨bl, ol, all9, e1, hbl, e3, e4⟩ := recs_cell heldC_k (by omega) hrd (show t < n0 by have h1 := HN.out; have h2 := HLA.out; omega)
     obtain rfl : all = all9 := Option.some.inj (hA.ha.symm.trans e3)
     subst e1
     have HX := Lib.hid hx
     have HAT := Lib.hid hA
     have HCE : Hid (bl < W3.heap.size ∧ ∀ j u, (heldC all)[j]? = some u → W3.cell? ⟨bl, ol + t * 4 + j, none⟩ = some u) := Lib.hid ⟨hbl, e4⟩
     have ht12 : t + 1 ≤ 12 := by have h1 := HV.out; have h2 := HLA.out; omega
     clear e3 e4 hx hA hbB hrd hL0 hbl
     have HB0 := Lib.hid (Below.refl W3.heap.size W3)
     have x9 := (HLay.out.blk 0 rfl).cell 2
     have x9l := HLay.out.lt 0 rfl
     change _ = some (Value.slice Aa na ca) at x9
     rw [hAv] at x9 ⊢
     gi_upto_region 10 with fail
     clear c0_ c1_ c2_ c3_ x9 x9l
     obtain ⟨V4, hV⟩ : ∃ V, (W3.alloc (.cells #[.int .i64 x.kind, .int .i64 x.fr, .int .i64 x.to, .int .i64 x.drops] 67)) = V := ⟨_, rfl⟩
     rw [hV]
     have hb := fbox_bel hV
     have hnew := fbox_blk hV
     have hge := HLay.out.bel.size
     replace HLay := Lib.hid (HLay.out.below hb)
     replace HBR := Lib.hid (HBR.out.below hb)
     replace HB0 := Lib.hid (HB0.out.trans (hb.mono HB0.out.size))
     replace HLay := Lib.hid (HLay.out.add hge hnew)
     clear hnew hge hb hV
     obtain ⟨G5, hG⟩ : ∃ g, W3.heap.size = g := ⟨_, rfl⟩
     rw [hG] at HLay ⊢
     clear hG
     rw [← hAv]
     have HAV := Lib.hid hAv
     clear hAv
     have hlt1 := HLay.out.lt 1 rfl
     have hlt0 := HLay.out.lt 0 rfl
     have HGB0 := Lib.hid HBR.out.bel.size
     have HGW0 := Lib.hid HB0.out.size
     gi_upto_region 11 with fail
     have HOUT := Lib.hid (Blk.new V4 30 #[.int .i64 0, .int .i64 (-1)])
     have hb := (Below.refl V4.heap.size V4).alloc (Nat.le_refl _) (.cells #[.int .i64 0, .int .i64 (-1)] 30)
     replace HLay := Lib.hid (HLay.out.below hb)
     replace HBR := Lib.hid (HBR.out.below hb)
     replace HB0 := Lib.hid (HB0.out.trans (hb.mono HB0.out.size))
     generalize (V4.alloc (.cells #[.int .i64 0, .int .i64 (-1)] 30)) = V9 at *
     obtain ⟨GO, hG⟩ : ∃ g, V4.heap.size = g := ⟨_, rfl⟩
     rw [hG] at HOUT ⊢
     have HGB : Hid (W1.heap.size ≤ GO ∧ w.heap.size ≤ GO ∧ w.heap.size + 1 ≠ GO ∧ w.heap.size ≠ GO) := Lib.hid ⟨by rw [← hG]; exact HGB0.out, by omega, by omega, by omega⟩
     have HGW : Hid (W3.heap.size ≤ GO) := Lib.hid (by rw [← hG]; exact HGW0.out)
     clear hb hG hlt1 hlt0 HGB0 HGW0
     have q0 := HBR.out.rowCell HRR.out
     have q0l := HBR.out.top.lt
     have hkn : t < n0 := by have h1 := HN.out; have h2 := HLA.out; omega
     have hn13 : n0 ≤ 13 := by have h1 := HN.out; have h2 := HV.out; omega
     gi_wp2
     clear q0 q0l hn13 hkn
     refine wpIn_loop (fun a W => ∃ (c : Nat), Hid (Ex2 fun (lo hi : Int) => c ≤ N ∧ Lay w W [(w.heap.size, 26, #[.int .i64 m.fountains, .slice Av nv cv, .slice Aa na ca, .slice At nt ct]), (w.heap.size + 1, 30, #[.int .i64 0, .int .i64 0]), (G5, 67, #[.int .i64 x.kind, .int .i64 x.fr, .int .i64 x.to, .int .i64 x.drops])] ∧ BR W1 W N g rs bs ∧ Below W3.heap.size W3 W ∧ Blk W GO 30 #[.int .i64 lo, .int .i64 hi] ∧ SpanOf (MvN m fountain L x all t c) (lo, hi)) ∧ FrMvA (.int .i64 ((t : Int) + 1)) (.int .i64 fountain) (.pointer (some ⟨w.heap.size, 0, none⟩)) (.pointer (some ⟨w.heap.size + 1, 0, none⟩)) (.slice (some ⟨g, 0, none⟩) n0 n0) (.slice (some ⟨bl, ol, none⟩) n0 c0) (.pointer (some ⟨G5, 0, none⟩)) (.pointer (some ⟨GO, 0, none⟩)) (.slice (some ⟨r, 0, none⟩) N N) (.int .i64 (N : Int)) (.int .i64 (c : Int)) a) (fun a _ => N - (intOf (a.tmps.getD 64 undef)).toNat) ?_ ?_
     ·exact ⟨0, Lib.hid ⟨0, -1, by omega, HLay.out, HBR.out, HB0.out, HOUT.out, .inl ⟨fun _ => mv_start, rfl⟩⟩, by constructor⟩
     clear HLay HBR HB0 HOUT
     rintro a W ⟨c, HS, ha⟩
     cases ha
     obtain ⟨lo, hi, hs9⟩ := HS.out
     replace HS := Lib.hid hs9
     clear hs9
     have HLay := Lib.hid HS.out.2.1
     have HBR := Lib.hid HS.out.2.2.1
     have HB0 := Lib.hid HS.out.2.2.2.1
     have HOUT := Lib.hid HS.out.2.2.2.2.1
     by_cases hlc : c < N
     ·
      obtain ⟨bv, q1, hbP, q1l⟩ := rowAt HBR.out HTAB.out HRR.out HRW.out hlc
      have hn9 := HN9.out
      have HBP := Lib.hid hbP
      clear hbP
      cases bv with
      | false =>
       gi_wp2
       have hno : ¬ Truth m fountain L t (decN m c) := fun h => by have := HBP.out.2 h; cases this
       refine ⟨⟨c + 1, Lib.hid ⟨lo, hi, hlc, HLay.out, HBR.out, HB0.out, HOUT.out, HS.out.2.2.2.2.2.keep (mv_skip hno)⟩, by rw [show ((c + 1 : Nat) : Int) = (c : Int) + 1 from by omega]; constructor⟩, ?_⟩
       simp [intOf] <;> omega
      | true =>
       have HTC : Hid (Truth m fountain L t (decN m c)) := Lib.hid (HBP.out.1 rfl)
       have x0_0 := (HLay.out.blk 0 rfl).cell 0
       have x0_1 := (HLay.out.blk 0 rfl).cell 1
       have x0_2 := (HLay.out.blk 0 rfl).cell 2
       have x0_3 := (HLay.out.blk 0 rfl).cell 3
       have l0_ := HLay.out.lt 0 rfl
       gi_wp2
       clear q1 q1l
       clear x0_0 x0_1 x0_2 x0_3 l0_
       refine ⟨trivial, (callsIn_wide.2 (callsIn_wide.1 (rdec_in Av nv cv Aa na ca At nt ct m (c : Int) W (HM.out.up HLay.out.1) (okMix_ves HK.out) HV.out.1 (by have := HN9.out; omega)))).mono ?_⟩
       rintro e W6 ⟨rfl, hb⟩
       replace HLay := Lib.hid (HLay.out.below hb)
       replace HBR := Lib.hid (HBR.out.below hb)
       replace HB0 := Lib.hid (HB0.out.trans (hb.mono HB0.out.size))
       replace HOUT := Lib.hid (HOUT.out.below hb HOUT.out.lt)
       clear hb
       obtain ⟨s, hs⟩ : ∃ s, decN m c = s := ⟨_, rfl⟩
       rw [show decH m (c : Int) = s from hs]
       have HSD := Lib.hid hs
       have hfi : Fits all s := by rw [← HSD.out]; exact fwd_fits HL.out HV.out.1 (Fin.fwd HTC.out) HAT.out.ha
       have HFI := Lib.hid hfi
       have hrg : ∀ q : Nat, q < 4 → 0 ≤ heldAt s q ∧ heldAt s q ≤ 12 := fun q hq => by have h1 := HFI.out.le q hq; have h2 := HAT.out.rng q; omega
       have HRG := Lib.hid hrg
       clear hs hfi hrg
       gi_upto_region 16 with fail
       obtain ⟨V7, hV⟩ : ∃ V, (W6.alloc (.cells #[.int .i64 (heldAt s 0), .int .i64 (heldAt s 1), .int .i64 (heldAt s 2), .int .i64 (heldAt s 3)] 110)) = V := ⟨_, rfl⟩
       rw [hV]
       have hb := fbox_bel hV
       have hnew := fbox_blk hV
       have hge := HLay.out.bel.size
       replace HLay := Lib.hid (HLay.out.below hb)
       replace HBR := Lib.hid (HBR.out.below hb)
       replace HB0 := Lib.hid (HB0.out.trans (hb.mono HB0.out.size))
       replace HOUT := Lib.hid (HOUT.out.below hb HOUT.out.lt)
       replace HLay := Lib.hid (HLay.out.add hge hnew)
       clear hnew hge hb hV
       obtain ⟨G8, hG⟩ : ∃ g, W6.heap.size = g := ⟨_, rfl⟩
       rw [hG] at HLay ⊢
       clear hG
       replace HLay := Lib.hid (show Lay w V7 [(w.heap.size, 26, #[.int .i64 m.fountains, .slice Av nv cv, .slice Aa na ca, .slice At nt ct]), (w.heap.size + 1, 30, #[.int .i64 0, .int .i64 0]), (G5, 67, #[.int .i64 x.kind, .int .i64 x.fr, .int .i64 x.to, .int .i64 x.drops]), (G8, 110, #[.int .i64 (heldAt s 0), .int .i64 (heldAt s 1), .int .i64 (heldAt s 2), .int .i64 (heldAt s 3)])] from HLay.out)
       have HLay0 := Lib.hid HLay.out
       have HBR0 := Lib.hid HBR.out
       have HOUT0 := Lib.hid HOUT.out
       have HB00 := Lib.hid HB0.out
       refine wpIn_flow_new [([true, true, true, true, true, true, true, true, true], 9)] [] [false, false, false, false, false, false, false, false, false, false, false, true] 10 (fun b => .pointer (some ⟨b, 0, none⟩)) 30 #[.int .i64 0, .int .i64 0] (by kernel_rfl) (by kernel_rfl) (by kernel_rfl) (below_drewN (Below.refl _ _) 1) rfl rfl rfl (fun _ _ => rfl) (fun _ _ => rfl) ?_
       refine wpFlow_cons (A := ?AF1) rfl ?hq1 ?_
       case hq1 =>
        rintro σ hσ of hof hcl
        have HOF := Lib.hid hof
        have HCL := Lib.hid hcl
        clear hof hcl
        have c0_ : ∀ z, (of z).cell? ⟨w.heap.size, 0, none⟩ = some (.int .i64 m.fountains) := fun z => ((HLay.out.below (HOF.out z)).blk 0 rfl).cell 0
        have c1_ : ∀ z, (of z).cell? ⟨w.heap.size, 1, none⟩ = some (.slice Av nv cv) := fun z => ((HLay.out.below (HOF.out z)).blk 0 rfl).cell 1
        have c2_ : ∀ z, (of z).cell? ⟨w.heap.size, 2, none⟩ = some (.slice Aa na ca) := fun z => ((HLay.out.below (HOF.out z)).blk 0 rfl).cell 2
        have c3_ : ∀ z, (of z).cell? ⟨w.heap.size, 3, none⟩ = some (.slice At nt ct) := fun z => ((HLay.out.below (HOF.out z)).blk 0 rfl).cell 3
        have c4_ : ∀ z, (of z).cell? ⟨G5, 0, none⟩ = some (.int .i64 x.kind) := fun z => ((HLay.out.below (HOF.out z)).blk 2 rfl).cell 0
        have c5_ : ∀ z, (of z).cell? ⟨G5, 1, none⟩ = some (.int .i64 x.fr) := fun z => ((HLay.out.below (HOF.out z)).blk 2 rfl).cell 1
        have c6_ : ∀ z, (of z).cell? ⟨G5, 2, none⟩ = some (.int .i64 x.to) := fun z => ((HLay.out.below (HOF.out z)).blk 2 rfl).cell 2
        have c7_ : ∀ z, (of z).cell? ⟨G5, 3, none⟩ = some (.int .i64 x.drops) := fun z => ((HLay.out.below (HOF.out z)).blk 2 rfl).cell 3
        have c8_ : ∀ z, (of z).cell? ⟨G8, 0, none⟩ = some (.int .i64 (heldAt s 0)) := fun z => ((HLay.out.below (HOF.out z)).blk 3 rfl).cell 0
        have c9_ : ∀ z, (of z).cell? ⟨G8, 1, none⟩ = some (.int .i64 (heldAt s 1)) := fun z => ((HLay.out.below (HOF.out z)).blk 3 rfl).cell 1
        have c10_ : ∀ z, (of z).cell? ⟨G8, 2, none⟩ = some (.int .i64 (heldAt s 2)) := fun z => ((HLay.out.below (HOF.out z)).blk 3 rfl).cell 2
        have c11_ : ∀ z, (of z).cell? ⟨G8, 3, none⟩ = some (.int .i64 (heldAt s 3)) := fun z => ((HLay.out.below (HOF.out z)).blk 3 rfl).cell 3
        have hfw : ∀ f, Fence.wide.fn f := fun _ => trivial
        have r0 : ∀ z, (of z).cell? ⟨bl, ol + t * 4, none⟩ = some (.int .i64 (heldAt all 0)) := fun z => ((HB0.out.trans ((HOF.out z).mono HB0.out.size)).cell (p := ⟨bl, ol + t * 4, none⟩) HCE.out.1).trans (HCE.out.2 0 _ rfl)
        have r1 : ∀ z, (of z).cell? ⟨bl, ol + t * 4 + 1, none⟩ = some (.int .i64 (heldAt all 1)) := fun z => ((HB0.out.trans ((HOF.out z).mono HB0.out.size)).cell (p := ⟨bl, ol + t * 4 + 1, none⟩) HCE.out.1).trans (HCE.out.2 1 _ rfl)
        have r2 : ∀ z, (of z).cell? ⟨bl, ol + t * 4 + 2, none⟩ = some (.int .i64 (heldAt all 2)) := fun z => ((HB0.out.trans ((HOF.out z).mono HB0.out.size)).cell (p := ⟨bl, ol + t * 4 + 2, none⟩) HCE.out.1).trans (HCE.out.2 2 _ rfl)
        have r3 : ∀ z, (of z).cell? ⟨bl, ol + t * 4 + 3, none⟩ = some (.int .i64 (heldAt all 3)) := fun z => ((HB0.out.trans ((HOF.out z).mono HB0.out.size)).cell (p := ⟨bl, ol + t * 4 + 3, none⟩) HCE.out.1).trans (HCE.out.2 3 _ rfl)
        have hkk : t < n0 := by have h1 := HN.out; have h2 := HLA.out; omega
        have hk13 : n0 ≤ 13 := by have h1 := HN.out; have h2 := HV.out; omega
        simp only [pickB]
        iterate 9 (gi_big_quiet_step (fail))
        refine wpQuietIn_nil ?_
        exact rfl
       intro W9 hW
       replace HLay := Lib.hid (HLay.out.below hW)
       replace HBR := Lib.hid (HBR.out.below hW)
       replace HB0 := Lib.hid (HB0.out.trans (hW.mono HB0.out.size))
       replace HOUT := Lib.hid (HOUT.out.below hW HOUT.out.lt)
       clear hW
       gi_wp2
       refine ⟨trivial, (callsIn_wide.2 (callsIn_wide.1 (rmoves_in Av nv cv Aa na ca At nt ct m x fountain all s W9 (HM.out.up HLay.out.1) HAT.out.ok HFI.out (fun q hq => (HAT.out.rng q).2) HV.out.1))).mono ?_⟩
       rintro e W10 ⟨rfl, hb⟩
       replace HLay := Lib.hid (HLay.out.below hb)
       replace HBR := Lib.hid (HBR.out.below hb)
       replace HB0 := Lib.hid (HB0.out.trans (hb.mono HB0.out.size))
       replace HOUT := Lib.hid (HOUT.out.below hb HOUT.out.lt)
       obtain ⟨ml, hml⟩ : ∃ lo, (spanR m x fountain all s).1 = lo := ⟨_, rfl⟩
       obtain ⟨mh, hmh⟩ : ∃ hi, (spanR m x fountain all s).2 = hi := ⟨_, rfl⟩
       rw [hml, hmh]
       have HLO := Lib.hid hml
       have HHI := Lib.hid hmh
       clear hml hmh
       gi_wp2
       refine ⟨trivial, hb, ?_⟩
       clear hb
       refine wpFlow_nil (A := ?AF2) ?hq2 ?_
       case hq2 =>
        rintro σ hσ of hof hcl
        have HOF := Lib.hid hof
        have HCL := Lib.hid hcl
        clear hof hcl
        have c0_ : ∀ z, (of z).cell? ⟨w.heap.size, 0, none⟩ = some (.int .i64 m.fountains) := fun z => ((HLay.out.below (HOF.out z)).blk 0 rfl).cell 0
        have c1_ : ∀ z, (of z).cell? ⟨w.heap.size, 1, none⟩ = some (.slice Av nv cv) := fun z => ((HLay.out.below (HOF.out z)).blk 0 rfl).cell 1
        have c2_ : ∀ z, (of z).cell? ⟨w.heap.size, 2, none⟩ = some (.slice Aa na ca) := fun z => ((HLay.out.below (HOF.out z)).blk 0 rfl).cell 2
        have c3_ : ∀ z, (of z).cell? ⟨w.heap.size, 3, none⟩ = some (.slice At nt ct) := fun z => ((HLay.out.below (HOF.out z)).blk 0 rfl).cell 3
        have c4_ : ∀ z, (of z).cell? ⟨G5, 0, none⟩ = some (.int .i64 x.kind) := fun z => ((HLay.out.below (HOF.out z)).blk 2 rfl).cell 0
        have c5_ : ∀ z, (of z).cell? ⟨G5, 1, none⟩ = some (.int .i64 x.fr) := fun z => ((HLay.out.below (HOF.out z)).blk 2 rfl).cell 1
        have c6_ : ∀ z, (of z).cell? ⟨G5, 2, none⟩ = some (.int .i64 x.to) := fun z => ((HLay.out.below (HOF.out z)).blk 2 rfl).cell 2
        have c7_ : ∀ z, (of z).cell? ⟨G5, 3, none⟩ = some (.int .i64 x.drops) := fun z => ((HLay.out.below (HOF.out z)).blk 2 rfl).cell 3
        have c8_ : ∀ z, (of z).cell? ⟨G8, 0, none⟩ = some (.int .i64 (heldAt s 0)) := fun z => ((HLay.out.below (HOF.out z)).blk 3 rfl).cell 0
        have c9_ : ∀ z, (of z).cell? ⟨G8, 1, none⟩ = some (.int .i64 (heldAt s 1)) := fun z => ((HLay.out.below (HOF.out z)).blk 3 rfl).cell 1
        have c10_ : ∀ z, (of z).cell? ⟨G8, 2, none⟩ = some (.int .i64 (heldAt s 2)) := fun z => ((HLay.out.below (HOF.out z)).blk 3 rfl).cell 2
        have c11_ : ∀ z, (of z).cell? ⟨G8, 3, none⟩ = some (.int .i64 (heldAt s 3)) := fun z => ((HLay.out.below (HOF.out z)).blk 3 rfl).cell 3
        have hfw : ∀ f, Fence.wide.fn f := fun _ => trivial
        simp only [pickB]
        iterate 0 (gi_big_quiet_step (fail))
        refine wpQuietIn_nil ?_
        exact rfl
       intro bN W11 hW hbg hbb hbi
       replace HLay := Lib.hid (HLay.out.below hW)
       replace HBR := Lib.hid (HBR.out.below hW)
       replace HB0 := Lib.hid (HB0.out.trans (hW.mono HB0.out.size))
       replace HOUT := Lib.hid (HOUT.out.below hW HOUT.out.lt)
       have HGP : Hid (bN ≠ GO) := Lib.hid (by have := HOUT0.out.lt; omega)
       have c0 := hbb.cell 0
       have z0 := hbb.frozen 0
       have c1 := hbb.cell 1
       have z1 := hbb.frozen 1
       have hbl := hbb.lt
       have hbw : w.heap.size ≤ bN := Nat.le_trans (HLay0.out.1.size) hbg
       simp only [pickB]
       refine wpT_cons ?_
       gi_wp2
       refine wpT_nil ?_
       have R3 := ret2' hbb (Below.refl bN W11) (Nat.le_refl _) (.int .i64 ml) (.int .i64 mh)
       have HLay9 := Lib.hid (Lay.add (w := w) (bs := [(w.heap.size, 26, #[.int .i64 m.fountains, .slice Av nv cv, .slice Aa na ca, .slice At nt ct]), (w.heap.size + 1, 30, #[.int .i64 0, .int .i64 0]), (G5, 67, #[.int .i64 x.kind, .int .i64 x.fr, .int .i64 x.to, .int .i64 x.drops]), (G8, 110, #[.int .i64 (heldAt s 0), .int .i64 (heldAt s 1), .int .i64 (heldAt s 2), .int .i64 (heldAt s 3)])]) ⟨HLay.out.1.trans (R3.2.1.mono hbw), fun p hp => ⟨(HLay.out.2 p hp).1, (HLay.out.2 p hp).2.below R3.2.1 (by have := (HLay0.out.2 p hp).2.lt; omega)⟩⟩ hbw R3.1)
       replace HBR := Lib.hid (HBR.out.newb HBR0.out hbg R3.2.2)
       replace HB0 := Lib.hid (HB0.out.trans (R3.2.1.mono (Nat.le_trans HB00.out.size hbg)))
       replace HOUT := Lib.hid (HOUT.out.grown R3.2.2 (fun e => by have := HOUT0.out.lt; have := Option.some.inj e; omega))
       generalize ((W11.setCell ⟨bN, 0, none⟩ (.int .i64 ml)).setCell ⟨bN, 1, none⟩ (.int .i64 mh)) = W99 at *
       clear c0 z0 c1 z1 hbl hbb hW hbg R3
       replace HLay := HLay9
       have x4_0 := (HLay.out.blk 4 rfl).cell 0
       have x4_1 := (HLay.out.blk 4 rfl).cell 1
       have l4_ := HLay.out.lt 4 rfl
       gi_wp2
       clear x4_0 x4_1 l4_
       clear HLay0 HBR0 HOUT0 HB00
       refine wpIn_loop (fun a W => ∃ (k0 : Int), Hid (Ex2 fun (lo hi : Int) => ml ≤ k0 ∧ (k0 ≤ mh + 1 ∨ k0 = ml) ∧ Lay w W [(w.heap.size, 26, #[.int .i64 m.fountains, .slice Av nv cv, .slice Aa na ca, .slice At nt ct]), (w.heap.size + 1, 30, #[.int .i64 0, .int .i64 0]), (G5, 67, #[.int .i64 x.kind, .int .i64 x.fr, .int .i64 x.to, .int .i64 x.drops]), (G8, 110, #[.int .i64 (heldAt s 0), .int .i64 (heldAt s 1), .int .i64 (heldAt s 2), .int .i64 (heldAt s 3)]), (bN, 30, #[.int .i64 ml, .int .i64 mh])] ∧ BR W1 W N g rs bs ∧ Below W3.heap.size W3 W ∧ Blk W GO 30 #[.int .i64 lo, .int .i64 hi] ∧ SpanOf (MvQ m fountain L x all t c k0) (lo, hi)) ∧ FrMvB (.int .i64 ((t : Int) + 1)) (.int .i64 fountain) (.pointer (some ⟨w.heap.size, 0, none⟩)) (.pointer (some ⟨w.heap.size + 1, 0, none⟩)) (.slice (some ⟨g, 0, none⟩) n0 n0) (.slice (some ⟨bl, ol, none⟩) n0 c0) (.pointer (some ⟨G5, 0, none⟩)) (.pointer (some ⟨GO, 0, none⟩)) (.pointer (some ⟨G8, 0, none⟩)) (.pointer (some ⟨bN, 0, none⟩)) (.int .i64 k0) (.slice (some ⟨r, 0, none⟩) N N) (.int .i64 (N : Int)) (.int .i64 (c : Int)) a) (fun a _ => (mh + 1 - intOf (a.tmps.getD 18 undef)).toNat) ?_ ?_
       ·exact ⟨ml, Lib.hid ⟨lo, hi, Int.le_refl _, .inr rfl, HLay.out, HBR.out, HB0.out, HOUT.out, HS.out.2.2.2.2.2.keep (fun n => by have h1 := mv_in (m := m) (f := fountain) (A := L) (x := x) (all := all) (t := t) (c0 := c) n; rw [HSD.out, HLO.out] at h1; exact h1)⟩, by constructor⟩
       clear HLay HBR HB0 HOUT
       rintro a W ⟨k0, HT, ha⟩
       cases ha
       obtain ⟨lo, hi, hs9⟩ := HT.out
       replace HT := Lib.hid hs9
       clear hs9
       have HLay := Lib.hid HT.out.2.2.1
       have HBR := Lib.hid HT.out.2.2.2.1
       have HB0 := Lib.hid HT.out.2.2.2.2.1
       have HOUT := Lib.hid HT.out.2.2.2.2.2.1
       by_cases hle : k0 ≤ mh
       ·
        have hkb := (spanR_bd HK.out HL.out HX.out HAT.out.ha (Fin.fwd HTC.out)).2 k0
        rw [HSD.out, HLO.out, HHI.out] at hkb
        replace hkb := hkb HT.out.1 hle
        have hkz : 0 ≤ k0 ∧ k0 ≤ 2000 := by have := HAT.out.size; dsimp only at this; omega
        have HKZ := Lib.hid hkz
        clear hkb
        have hmc := moved_code (k := k0) HK.out HL.out HNN.out HX.out HAT.out.ha (Fin.fwd HTC.out) (by rw [HSD.out, HLO.out]; exact HT.out.1) (by rw [HSD.out, HHI.out]; exact hle)
        rw [HSD.out] at hmc
        obtain ⟨s2, hs2⟩ : ∃ s2, movedR m x s k0 = s2 := ⟨_, rfl⟩
        rw [hs2] at hmc
        obtain ⟨hw2, d, hd1, hd2, hd3⟩ := hmc
        have HS2 := Lib.hid hs2
        have HW2 := Lib.hid hw2
        have HD1 := Lib.hid hd1
        have HD2 := Lib.hid hd2
        have HD3 := Lib.hid hd3
        obtain ⟨bv2, _, hbP2, _⟩ := rowAt HBR.out HTAB.out HRR2.out HRW2.out hd2
        have HBP2 := Lib.hid hbP2
        have HCEL : Hid (∀ z, Below W.heap.size W z → z.cell? ⟨r2, d, none⟩ = some (.bool bv2)) := Lib.hid fun z hz => by
         obtain ⟨bv3, h1, h2, _⟩ := rowAt (HBR.out.below hz) HTAB.out HRR2.out HRW2.out HD2.out
         rw [h1]
         congr 2
         exact Bool.eq_iff_iff.2 (h2.trans HBP2.out.symm)
        clear hs2 hw2 hd1 hd2 hd3 hbP2
        have x4_0 := (HLay.out.blk 4 rfl).cell 0
        have x4_1 := (HLay.out.blk 4 rfl).cell 1
        have l4_ := HLay.out.lt 4 rfl
        gi_upto_region 20 with fail
        clear x4_0 x4_1 l4_
        have HB9 := Lib.hid (Below.refl W.heap.size W)
        refine wpIn_flow_old [([true, true, true, true, true, true, true, true, true], 9), ([], 10)] [false, false, false, false, false, false, false, false, false, false, false, true, true] [] (by kernel_rfl) (by kernel_rfl) (by kernel_rfl) (below_drewN (Below.refl _ _) 1) ?_
        refine wpFlow_cons (A := ?AF3) rfl ?hq3 ?_
        case hq3 =>
         rintro σ hσ of hof hcl
         have HOF := Lib.hid hof
         have HCL := Lib.hid hcl
         clear hof hcl
         have c0_ : ∀ z, (of z).cell? ⟨w.heap.size, 0, none⟩ = some (.int .i64 m.fountains) := fun z => ((HLay.out.below (HOF.out z)).blk 0 rfl).cell 0
         have c1_ : ∀ z, (of z).cell? ⟨w.heap.size, 1, none⟩ = some (.slice Av nv cv) := fun z => ((HLay.out.below (HOF.out z)).blk 0 rfl).cell 1
         have c2_ : ∀ z, (of z).cell? ⟨w.heap.size, 2, none⟩ = some (.slice Aa na ca) := fun z => ((HLay.out.below (HOF.out z)).blk 0 rfl).cell 2
         have c3_ : ∀ z, (of z).cell? ⟨w.heap.size, 3, none⟩ = some (.slice At nt ct) := fun z => ((HLay.out.below (HOF.out z)).blk 0 rfl).cell 3
         have c4_ : ∀ z, (of z).cell? ⟨G5, 0, none⟩ = some (.int .i64 x.kind) := fun z => ((HLay.out.below (HOF.out z)).blk 2 rfl).cell 0
         have c5_ : ∀ z, (of z).cell? ⟨G5, 1, none⟩ = some (.int .i64 x.fr) := fun z => ((HLay.out.below (HOF.out z)).blk 2 rfl).cell 1
         have c6_ : ∀ z, (of z).cell? ⟨G5, 2, none⟩ = some (.int .i64 x.to) := fun z => ((HLay.out.below (HOF.out z)).blk 2 rfl).cell 2
         have c7_ : ∀ z, (of z).cell? ⟨G5, 3, none⟩ = some (.int .i64 x.drops) := fun z => ((HLay.out.below (HOF.out z)).blk 2 rfl).cell 3
         have c8_ : ∀ z, (of z).cell? ⟨G8, 0, none⟩ = some (.int .i64 (heldAt s 0)) := fun z => ((HLay.out.below (HOF.out z)).blk 3 rfl).cell 0
         have c9_ : ∀ z, (of z).cell? ⟨G8, 1, none⟩ = some (.int .i64 (heldAt s 1)) := fun z => ((HLay.out.below (HOF.out z)).blk 3 rfl).cell 1
         have c10_ : ∀ z, (of z).cell? ⟨G8, 2, none⟩ = some (.int .i64 (heldAt s 2)) := fun z => ((HLay.out.below (HOF.out z)).blk 3 rfl).cell 2
         have c11_ : ∀ z, (of z).cell? ⟨G8, 3, none⟩ = some (.int .i64 (heldAt s 3)) := fun z => ((HLay.out.below (HOF.out z)).blk 3 rfl).cell 3
         have hfw : ∀ f, Fence.wide.fn f := fun _ => trivial
         have q0 : ∀ z, (of z).cell? ⟨g, t + 1, none⟩ = some (.slice (some ⟨r2, 0, none⟩) N N) := fun z => (HBR.out.below (HOF.out z)).rowCell HRR2.out
         have q1 : ∀ z, (of z).cell? ⟨r2, d, none⟩ = some (.bool bv2) := fun z => HCEL.out _ (HB9.out.trans ((HOF.out z).mono HB9.out.size))
         have hkk : t + 1 < n0 := by have h1 := HN.out; have h2 := HLA.out; have h3 := HLT.out; omega
         have hd2 := HD2.out
         have hn9 := HN9.out
         have hk13 : n0 ≤ 13 := by have h1 := HN.out; have h2 := HV.out; omega
         simp only [pickB]
         iterate 9 (gi_big_quiet_step (fail))
         refine wpQuietIn_nil ?_
         exact rfl
        intro W12 hW
        replace HLay := Lib.hid (HLay.out.below hW)
        replace HBR := Lib.hid (HBR.out.below hW)
        replace HB0 := Lib.hid (HB0.out.trans (hW.mono HB0.out.size))
        replace HOUT := Lib.hid (HOUT.out.below hW HOUT.out.lt)
        replace HB9 := Lib.hid (HB9.out.trans (hW.mono HB9.out.size))
        clear hW
        gi_wp2
        refine ⟨trivial, (callsIn_wide.2 (callsIn_wide.1 (rmoved_in Av nv cv Aa na ca At nt ct m x s k0 all W12 (HM.out.up HLay.out.1) HAT.out.ok HFI.out.lh HRG.out HKZ.out HV.out.1))).mono ?_⟩
        rintro e W13 ⟨rfl, hb⟩
        rw [HS2.out]
        replace HLay := Lib.hid (HLay.out.below hb)
        replace HBR := Lib.hid (HBR.out.below hb)
        replace HB0 := Lib.hid (HB0.out.trans (hb.mono HB0.out.size))
        replace HOUT := Lib.hid (HOUT.out.below hb HOUT.out.lt)
        replace HB9 := Lib.hid (HB9.out.trans (hb.mono HB9.out.size))
        gi_wp2
        refine ⟨trivial, hb, ?_⟩
        clear hb
        refine wpFlow_cons rfl Quietly.none ?_
        intro W14 hW
        replace HLay := Lib.hid (HLay.out.below hW)
        replace HBR := Lib.hid (HBR.out.below hW)
        replace HB0 := Lib.hid (HB0.out.trans (hW.mono HB0.out.size))
        replace HOUT := Lib.hid (HOUT.out.below hW HOUT.out.lt)
        replace HB9 := Lib.hid (HB9.out.trans (hW.mono HB9.out.size))
        clear hW
        gi_wp2
        refine ⟨trivial, (callsIn_wide.2 (callsIn_wide.1 (rcode_in Av nv cv Aa na ca At nt ct m s2 W14 (HM.out.up HLay.out.1) (okMix_ves HK.out) HV.out.1 HW2.out))).mono ?_⟩
        rintro e W15 ⟨rfl, hb⟩
        rw [show codeR (zsM m) (asK s2 m.vessels.length) = (d : Int) from HD1.out]
        replace HLay := Lib.hid (HLay.out.below hb)
        replace HBR := Lib.hid (HBR.out.below hb)
        replace HB0 := Lib.hid (HB0.out.trans (hb.mono HB0.out.size))
        replace HOUT := Lib.hid (HOUT.out.below hb HOUT.out.lt)
        replace HB9 := Lib.hid (HB9.out.trans (hb.mono HB9.out.size))
        gi_wp2
        refine ⟨trivial, hb, ?_⟩
        clear hb
        refine wpFlow_nil (A := ?AF4) ?hq4 ?_
        case hq4 =>
         rintro σ hσ of hof hcl
         have HOF := Lib.hid hof
         have HCL := Lib.hid hcl
         clear hof hcl
         have c0_ : ∀ z, (of z).cell? ⟨w.heap.size, 0, none⟩ = some (.int .i64 m.fountains) := fun z => ((HLay.out.below (HOF.out z)).blk 0 rfl).cell 0
         have c1_ : ∀ z, (of z).cell? ⟨w.heap.size, 1, none⟩ = some (.slice Av nv cv) := fun z => ((HLay.out.below (HOF.out z)).blk 0 rfl).cell 1
         have c2_ : ∀ z, (of z).cell? ⟨w.heap.size, 2, none⟩ = some (.slice Aa na ca) := fun z => ((HLay.out.below (HOF.out z)).blk 0 rfl).cell 2
         have c3_ : ∀ z, (of z).cell? ⟨w.heap.size, 3, none⟩ = some (.slice At nt ct) := fun z => ((HLay.out.below (HOF.out z)).blk 0 rfl).cell 3
         have c4_ : ∀ z, (of z).cell? ⟨G5, 0, none⟩ = some (.int .i64 x.kind) := fun z => ((HLay.out.below (HOF.out z)).blk 2 rfl).cell 0
         have c5_ : ∀ z, (of z).cell? ⟨G5, 1, none⟩ = some (.int .i64 x.fr) := fun z => ((HLay.out.below (HOF.out z)).blk 2 rfl).cell 1
         have c6_ : ∀ z, (of z).cell? ⟨G5, 2, none⟩ = some (.int .i64 x.to) := fun z => ((HLay.out.below (HOF.out z)).blk 2 rfl).cell 2
         have c7_ : ∀ z, (of z).cell? ⟨G5, 3, none⟩ = some (.int .i64 x.drops) := fun z => ((HLay.out.below (HOF.out z)).blk 2 rfl).cell 3
         have c8_ : ∀ z, (of z).cell? ⟨G8, 0, none⟩ = some (.int .i64 (heldAt s 0)) := fun z => ((HLay.out.below (HOF.out z)).blk 3 rfl).cell 0
         have c9_ : ∀ z, (of z).cell? ⟨G8, 1, none⟩ = some (.int .i64 (heldAt s 1)) := fun z => ((HLay.out.below (HOF.out z)).blk 3 rfl).cell 1
         have c10_ : ∀ z, (of z).cell? ⟨G8, 2, none⟩ = some (.int .i64 (heldAt s 2)) := fun z => ((HLay.out.below (HOF.out z)).blk 3 rfl).cell 2
         have c11_ : ∀ z, (of z).cell? ⟨G8, 3, none⟩ = some (.int .i64 (heldAt s 3)) := fun z => ((HLay.out.below (HOF.out z)).blk 3 rfl).cell 3
         have hfw : ∀ f, Fence.wide.fn f := fun _ => trivial
         have q0 : ∀ z, (of z).cell? ⟨g, t + 1, none⟩ = some (.slice (some ⟨r2, 0, none⟩) N N) := fun z => (HBR.out.below (HOF.out z)).rowCell HRR2.out
         have q1 : ∀ z, (of z).cell? ⟨r2, d, none⟩ = some (.bool bv2) := fun z => HCEL.out _ (HB9.out.trans ((HOF.out z).mono HB9.out.size))
         have hkk : t + 1 < n0 := by have h1 := HN.out; have h2 := HLA.out; have h3 := HLT.out; omega
         have hd2 := HD2.out
         have hn9 := HN9.out
         have hk13 : n0 ≤ 13 := by have h1 := HN.out; have h2 := HV.out; omega
         simp only [pickB]
         iterate 2 (gi_big_quiet_step (fail))
         refine wpQuietIn_nil ?_
         exact rfl
        intro W16 hW
        replace HLay := Lib.hid (HLay.out.below hW)
        replace HBR := Lib.hid (HBR.out.below hW)
        replace HB0 := Lib.hid (HB0.out.trans (hW.mono HB0.out.size))
        replace HOUT := Lib.hid (HOUT.out.below hW HOUT.out.lt)
        replace HB9 := Lib.hid (HB9.out.trans (hW.mono HB9.out.size))
        clear hW
        simp only [pickB]
        refine wpT_nil ?_
        clear HCEL HB9
        cases bv2 with
        | false =>
         gi_wp2
         refine ⟨⟨k0 + 1, Lib.hid ⟨lo, hi, by have := HT.out.1; omega, .inl (by omega), HLay.out, HBR.out, HB0.out, HOUT.out, HT.out.2.2.2.2.2.2.keep (mv_no (by rw [HSD.out, HS2.out, ← HD3.out]; exact fun h => by have := HBP2.out.2 h; cases this))⟩, by constructor⟩, ?_⟩
         simp [intOf] <;> omega
        | true =>
         have o0 := HOUT.out.cell 0
         have o1 := HOUT.out.cell 1
         have ol := HOUT.out.lt
         gi_wp2
         clear o0 o1 ol
         refine ⟨trivial, (callsIn_wide.2 (callsIn_wide.1 (rwide_in lo hi k0 W16))).mono ?_⟩
         rintro e W17 ⟨rfl, hb⟩
         replace HLay := Lib.hid (HLay.out.below hb)
         replace HBR := Lib.hid (HBR.out.below hb)
         replace HB0 := Lib.hid (HB0.out.trans (hb.mono HB0.out.size))
         replace HOUT := Lib.hid (HOUT.out.below hb HOUT.out.lt)
         clear hb
         obtain ⟨lo2, hlo2⟩ : ∃ x, (wideS (lo, hi) k0).1 = x := ⟨_, rfl⟩
         obtain ⟨hi2, hhi2⟩ : ∃ x, (wideS (lo, hi) k0).2 = x := ⟨_, rfl⟩
         rw [hlo2, hhi2]
         have HWD : Hid ((lo2, hi2) = wideS (lo, hi) k0) := Lib.hid (by rw [← hlo2, ← hhi2])
         clear hlo2 hhi2
         have o0 := HOUT.out.cell 0
         have o1 := HOUT.out.cell 1
         have ol := HOUT.out.lt
         have of0 := HOUT.out.frozen 0
         have of1 := HOUT.out.frozen 1
         gi_upto_region 19 with fail
         clear o0 o1 ol of0 of1
         have HG9 := Lib.hid (grown_two W17 GO (.int .i64 lo2) (.int .i64 hi2))
         have HLS := Lib.hid (HLay.out.row HG9.out (fun k e => by cases e; exact ⟨HGB.out.2.1, by intro b hb; simp only [List.mem_cons, List.not_mem_nil, or_false] at hb; rcases hb with rfl | rfl | rfl | rfl | rfl; exact HGB.out.2.2.2; exact HGB.out.2.2.1; exact blk_ne (HLay.out.blk 2 rfl) HOUT.out (by decide); exact blk_ne (HLay.out.blk 3 rfl) HOUT.out (by decide); exact HGP.out⟩))
         have HBS := Lib.hid (HBR.out.other HG9.out HOUT.out (by decide) (by decide) HGB.out.1)
         have HOS := Lib.hid ((HOUT.out.set_ 0 (.int .i64 lo2)).set_ 1 (.int .i64 hi2))
         have HB8 := Lib.hid ((HB0.out.setCell (p := ⟨GO, 0, none⟩) HGW.out (.int .i64 lo2)).setCell (p := ⟨GO, 1, none⟩) HGW.out (.int .i64 hi2))
         generalize (W17.setCell ⟨GO, 0, none⟩ (.int .i64 lo2)).setCell ⟨GO, 1, none⟩ (.int .i64 hi2) = S9 at *
         replace HLay := HLS
         replace HBR := HBS
         replace HOUT : Hid (Blk S9 GO 30 #[.int .i64 lo2, .int .i64 hi2]) := HOS
         replace HB0 := HB8
         clear HLS HBS HG9 HOS HB8
         gi_wp2
         refine ⟨⟨k0 + 1, Lib.hid ⟨lo2, hi2, by have := HT.out.1; omega, .inl (by omega), HLay.out, HBR.out, HB0.out, HOUT.out, by rw [HWD.out]; exact HT.out.2.2.2.2.2.2.add (fun n h => mvq_pos HK.out HL.out HX.out HAT.out.ha HTC.out h) HKZ.out.1 (mv_yes (by rw [HSD.out, HLO.out]; exact HT.out.1) (by rw [HSD.out, HS2.out, ← HD3.out]; exact HBP2.out.1 (by first | rfl | trivial)))⟩, by constructor⟩, ?_⟩
         simp [intOf] <;> omega
       ·
        have x4_0 := (HLay.out.blk 4 rfl).cell 0
        have x4_1 := (HLay.out.blk 4 rfl).cell 1
        have l4_ := HLay.out.lt 4 rfl
        gi_wp2
        clear x4_0 x4_1 l4_
        refine ⟨⟨c + 1, Lib.hid ⟨lo, hi, hlc, HLay.out.sub (by intro b hb; simp only [List.mem_cons, List.not_mem_nil, or_false] at hb ⊢; rcases hb with rfl | rfl | rfl <;> simp), HBR.out, HB0.out, HOUT.out, HT.out.2.2.2.2.2.2.keep (mv_out HTC.out (by rw [HSD.out, HHI.out]; omega) (by rw [HSD.out, HHI.out, HLO.out]; exact HT.out.2.1))⟩, by rw [show ((c + 1 : Nat) : Int) = (c : Int) + 1 from by omega]; constructor⟩, ?_⟩
        simp [intOf] <;> omega
     ·
      obtain rfl : N = c := by have := HS.out.1; omega
      have o0 := HOUT.out.cell 0
      have o1 := HOUT.out.cell 1
      have ol := HOUT.out.lt
      have x1_0 := (HLay.out.blk 1 rfl).cell 0
      have z1_0 := (HLay.out.blk 1 rfl).frozen 0
      have x1_1 := (HLay.out.blk 1 rfl).cell 1
      have z1_1 := (HLay.out.blk 1 rfl).frozen 1
      have l1_ := HLay.out.lt 1 rfl
      gi_wp2
      have R2 := ret2' (HLay.out.blk 1 rfl) HLay.out.1 (HLay.out.ge 1 rfl) (.int .i64 (lo)) (.int .i64 (hi))
      have v0 := R2.1.cell 0
      have v1 := R2.1.cell 1
      refine bodyPost_ret (v := .tuple #[.agg #[.int .i64 (lo), .int .i64 (hi)], .int .i64 (0)]) (by simp [results, Try.results10, go_sem, v0, v1]) rfl ?_
      exact ⟨lo, hi, 0, rfl, .inr ⟨act_ok1 HK.out HQ.out, L, HL.out, .inr ⟨HT0.out, rfl, (HS.out.2.2.2.2.2.keep (fun z => (mv_end HK.out HL.out HNN.out HX.out HAT.out.ha z).symm)).all (mv_some HT0.out HX.out)⟩⟩, R2.2.1⟩
   ·
    have hi : wiB fountain 1 m.fountains = false := decide_eq_false hq
    rw [hi]
    have HQ : Hid (¬ ((1 ≤ act ∧ act ≤ m.acts.length) ∧ 1 ≤ fountain ∧ fountain ≤ m.fountains)) := Lib.hid (fun h => hq h.2)
    clear hq hi
    have x1_0 := (HLay.out.blk 1 rfl).cell 0
    have z1_0 := (HLay.out.blk 1 rfl).frozen 0
    have x1_1 := (HLay.out.blk 1 rfl).cell 1
    have z1_1 := (HLay.out.blk 1 rfl).frozen 1
    have l1_ := HLay.out.lt 1 rfl
    gi_wp2
    have R2 := ret2' (HLay.out.blk 1 rfl) HLay.out.1 (HLay.out.ge 1 rfl) (.int .i64 (0)) (.int .i64 (0))
    have v0 := R2.1.cell 0
    have v1 := R2.1.cell 1
    refine bodyPost_ret (v := .tuple #[.agg #[.int .i64 (0), .int .i64 (0)], .int .i64 (2)]) (by simp [results, Try.results10, go_sem, v0, v1]) rfl ?_
    exact ⟨0, 0, 2, rfl, .inl ⟨by rw [act_bad1 HK.out HQ.out]; decide, rfl, (act_bad1 HK.out HQ.out).symm⟩, R2.2.1⟩
  ·
   have hi : wiB act 1 na = false := decide_eq_false hr
   rw [hi]
   have HQ : Hid (¬ ((1 ≤ act ∧ act ≤ m.acts.length) ∧ 1 ≤ fountain ∧ fountain ≤ m.fountains)) := Lib.hid (fun h => hr (by have := h.1; rwa [HLA.out] at this))
   clear hr hi
   have x0_0 := (HLay.out.blk 0 rfl).cell 0
   have x0_1 := (HLay.out.blk 0 rfl).cell 1
   have x0_2 := (HLay.out.blk 0 rfl).cell 2
   have x0_3 := (HLay.out.blk 0 rfl).cell 3
   have l0_ := HLay.out.lt 0 rfl
   gi_wp2
   clear x0_0 x0_1 x0_2 x0_3 l0_
   refine ⟨trivial, ?_⟩
   have x1_0 := (HLay.out.blk 1 rfl).cell 0
   have z1_0 := (HLay.out.blk 1 rfl).frozen 0
   have x1_1 := (HLay.out.blk 1 rfl).cell 1
   have z1_1 := (HLay.out.blk 1 rfl).frozen 1
   have l1_ := HLay.out.lt 1 rfl
   gi_wp2
   have R2 := ret2' (HLay.out.blk 1 rfl) HLay.out.1 (HLay.out.ge 1 rfl) (.int .i64 (0)) (.int .i64 (0))
   have v0 := R2.1.cell 0
   have v1 := R2.1.cell 1
   refine bodyPost_ret (v := .tuple #[.agg #[.int .i64 (0), .int .i64 (0)], .int .i64 (2)]) (by simp [results, Try.results10, go_sem, v0, v1]) rfl ?_
   exact ⟨0, 0, 2, rfl, .inl ⟨by rw [act_bad1 HK.out HQ.out]; decide, rfl, (act_bad1 HK.out HQ.out).symm⟩, R2.2.1⟩

end Go.Proofs.Ythofngceiecniaa
/- The answer's Gone. -/
namespace Go.Proofs.Ythofngceiecniaa
open Go.RowKit
inductive FrGnR (v1 v2 v4 v8 v39 v40 v41 : Value) : Act → Prop
 | mk (u0 u3 u5 u6 u7 u9 u10 u11 u12 u13 u14 u15 u16 u17 u18 u19 u20 u21 u22 u23 u24 u25 u26 u27 u28 u29 u30 u31 u32 u33 u34 u35 u36 u37 u38 u42 u43 u44 u45 u46 u47 u48 u49 u50 u51 u52 u53 u54 u55 u56 u57 u58 u59 u60 u61 u62 u63 u64 u65 : Value) : FrGnR v1 v2 v4 v8 v39 v40 v41 { tmps := #[u0, v1, v2, u3, v4, u5, u6, u7, v8, u9, u10, u11, u12, u13, u14, u15, u16, u17, u18, u19, u20, u21, u22, u23, u24, u25, u26, u27, u28, u29, u30, u31, u32, u33, u34, u35, u36, u37, u38, v39, v40, v41, u42, u43, u44, u45, u46, u47, u48, u49, u50, u51, u52, u53, u54, u55, u56, u57, u58, u59, u60, u61, u62, u63, u64, u65], defers := [] }
inductive FrGnS (v1 v2 v4 v8 v9 v11 v39 v40 v41 v53 v54 : Value) : Act → Prop
 | mk (u0 u3 u5 u6 u7 u10 u12 u13 u14 u15 u16 u17 u18 u19 u20 u21 u22 u23 u24 u25 u26 u27 u28 u29 u30 u31 u32 u33 u34 u35 u36 u37 u38 u42 u43 u44 u45 u46 u47 u48 u49 u50 u51 u52 u55 u56 u57 u58 u59 u60 u61 u62 u63 u64 u65 : Value) : FrGnS v1 v2 v4 v8 v9 v11 v39 v40 v41 v53 v54 { tmps := #[u0, v1, v2, u3, v4, u5, u6, u7, v8, v9, u10, v11, u12, u13, u14, u15, u16, u17, u18, u19, u20, u21, u22, u23, u24, u25, u26, u27, u28, u29, u30, u31, u32, u33, u34, u35, u36, u37, u38, v39, v40, v41, u42, u43, u44, u45, u46, u47, u48, u49, u50, u51, u52, v53, v54, u55, u56, u57, u58, u59, u60, u61, u62, u63, u64, u65], defers := [] }

set_option maxRecDepth 100000 in
set_option maxHeartbeats 8000000 in
theorem rgone_in (Av : Option Addr) (nv cv : Nat) (Aa : Option Addr) (na ca : Nat) (At : Option Addr) (nt ct : Nat) (m : Mix) (fountain : Int) (w : World) (h : MixS w Av nv Aa na At nt m) :
  CallsIn Fence.wide 9 Try.prog 12 #[.agg #[.int .i64 m.fountains, .slice Av nv cv, .slice Aa na ca, .slice At nt ct], .int .i64 fountain] w (GoneOut w m fountain) := by
 have HM := Lib.hid h
 have HLA := Lib.hid h.at_.lenA
 clear h
 refine callsIn_of_wp Try.func12 rfl trivial ?_ rfl
 simp only [Try.ntmps12, List.size_toArray, List.length_cons, List.length_nil, Nat.reduceAdd, Nat.reduceSub, Array.replicate_succ, Array.replicate_zero, List.push_toArray, List.append_toArray, List.nil_append, List.cons_append]
 gi_upto_region 1 with fail
 have HLay := Lib.hid (Lay.two w 26 #[.int .i64 m.fountains, .slice Av nv cv, .slice Aa na ca, .slice At nt ct] 30 #[.int .i64 0, .int .i64 0])
 generalize ((w.alloc (.cells #[.int .i64 m.fountains, .slice Av nv cv, .slice Aa na ca, .slice At nt ct] 26)).alloc (.cells #[.int .i64 0, .int .i64 0] 30)) = w0 at *
 have x0_0 := (HLay.out.blk 0 rfl).cell 0
 have x0_1 := (HLay.out.blk 0 rfl).cell 1
 have x0_2 := (HLay.out.blk 0 rfl).cell 2
 have x0_3 := (HLay.out.blk 0 rfl).cell 3
 have l0_ := HLay.out.lt 0 rfl
 gi_wp2
 clear x0_0 x0_1 x0_2 x0_3 l0_
 refine ⟨trivial, (callsIn_wide.2 (rmix_any Av nv cv Aa na ca At nt ct m w0 (HM.out.up HLay.out.1))).mono ?_⟩
 rintro e W1 ⟨rfl, hb⟩
 replace HLay := Lib.hid (HLay.out.below hb)
 clear hb
 cases hk : okMix m with
 | false =>
  have HK := Lib.hid hk
  clear hk
  have x1_0 := (HLay.out.blk 1 rfl).cell 0
  have z1_0 := (HLay.out.blk 1 rfl).frozen 0
  have x1_1 := (HLay.out.blk 1 rfl).cell 1
  have z1_1 := (HLay.out.blk 1 rfl).frozen 1
  have l1_ := HLay.out.lt 1 rfl
  gi_wp2
  have R2 := ret2' (HLay.out.blk 1 rfl) HLay.out.1 (HLay.out.ge 1 rfl) (.int .i64 (0)) (.int .i64 (0))
  have v0 := R2.1.cell 0
  have v1 := R2.1.cell 1
  refine bodyPost_ret (v := .tuple #[.agg #[.int .i64 (0), .int .i64 (0)], .int .i64 (40)]) (by simp [results, Try.results12, go_sem, v0, v1]) rfl ?_
  exact ⟨0, 0, 40, rfl, .inl ⟨by rw [gone_no HK.out]; decide, rfl, (gone_no HK.out).symm⟩, R2.2.1⟩
 | true =>
  have HK := Lib.hid hk
  have HV := Lib.hid (okMix_vess hk)
  clear hk
  have x0_0 := (HLay.out.blk 0 rfl).cell 0
  have x0_1 := (HLay.out.blk 0 rfl).cell 1
  have x0_2 := (HLay.out.blk 0 rfl).cell 2
  have x0_3 := (HLay.out.blk 0 rfl).cell 3
  have l0_ := HLay.out.lt 0 rfl
  gi_wp2
  clear x0_0 x0_1 x0_2 x0_3 l0_
  refine ⟨trivial, (callsIn_wide.2 (within_any fountain 1 m.fountains W1)).mono ?_⟩
  rintro e W8 ⟨rfl, rfl⟩
  by_cases hq : 1 ≤ fountain ∧ fountain ≤ m.fountains
  ·
   have hi : wiB fountain 1 m.fountains = true := decide_eq_true hq
   rw [hi]
   have HQ := Lib.hid hq
   clear hq hi
   have x0_0 := (HLay.out.blk 0 rfl).cell 0
   have x0_1 := (HLay.out.blk 0 rfl).cell 1
   have x0_2 := (HLay.out.blk 0 rfl).cell 2
   have x0_3 := (HLay.out.blk 0 rfl).cell 3
   have l0_ := HLay.out.lt 0 rfl
   gi_wp2
   clear x0_0 x0_1 x0_2 x0_3 l0_
   refine ⟨trivial, (callsIn_wide.2 (callsIn_wide.1 (rtruths_in Av nv cv Aa na ca At nt ct m fountain W1 (HM.out.up HLay.out.1) HK.out))).mono ?_⟩
   rintro e W2 ⟨L, rs, bs, g, n, N, b, rfl, hN, hN9, hL, hn, hBR, hT, hb0⟩
   have hb := hBR.bel
   replace HLay := Lib.hid (HLay.out.below hb)
   clear hb
   have HNN := Lib.hid hN
   have HN9 := Lib.hid hN9
   have HL := Lib.hid hL
   have HN := Lib.hid hn
   have HBR := Lib.hid hBR
   have HTAB := Lib.hid hT
   have HB0_ := Lib.hid hb0
   clear hN hN9 hL hn hBR hT hb0
   cases b with
   | false =>
    have x1_0 := (HLay.out.blk 1 rfl).cell 0
    have z1_0 := (HLay.out.blk 1 rfl).frozen 0
    have x1_1 := (HLay.out.blk 1 rfl).cell 1
    have z1_1 := (HLay.out.blk 1 rfl).frozen 1
    have l1_ := HLay.out.lt 1 rfl
    gi_wp2
    have R2 := ret2' (HLay.out.blk 1 rfl) HLay.out.1 (HLay.out.ge 1 rfl) (.int .i64 (0)) (.int .i64 (0))
    have v0 := R2.1.cell 0
    have v1 := R2.1.cell 1
    refine bodyPost_ret (v := .tuple #[.agg #[.int .i64 (0), .int .i64 (0)], .int .i64 (8)]) (by simp [results, Try.results12, go_sem, v0, v1]) rfl ?_
    exact ⟨0, 0, 8, rfl, .inr ⟨gone_ok1 HK.out HQ.out, L, HL.out, .inl ⟨fun h => (by have := HB0_.out.2 h; cases this), rfl, rfl⟩⟩, R2.2.1⟩
   | true =>
    have HT0 := Lib.hid (HB0_.out.1 rfl)
    clear HB0_
    obtain ⟨r, row, hr, hrow⟩ := rowLen (i := na) (r := 0) HBR.out HTAB.out (by have h1 := HN.out; have h2 := HLA.out; omega)
    have HRR := Lib.hid hr
    have HRW := Lib.hid hrow
    clear hr hrow
    have hlt1 := HLay.out.lt 1 rfl
    have hlt0 := HLay.out.lt 0 rfl
    have HGB0 := Lib.hid HBR.out.bel.size
    gi_upto_region 9 with fail
    obtain ⟨V3, hV⟩ : ∃ V, (W2.alloc (.cells #[.int .i64 0, .int .i64 (-1)] 30)) = V := ⟨_, rfl⟩
    rw [hV]
    have hb := fbox_bel hV
    have hnew := fbox_blk hV
    have hge := HLay.out.bel.size
    replace HLay := Lib.hid (HLay.out.below hb)
    replace HBR := Lib.hid (HBR.out.below hb)
    replace HLay := Lib.hid (HLay.out.add hge hnew)
    clear hnew hge hb hV
    obtain ⟨G4, hG⟩ : ∃ g, W2.heap.size = g := ⟨_, rfl⟩
    rw [hG] at HLay ⊢
    have HG_ := Lib.hid hG
    clear hG
    have HG1 : Hid (w.heap.size + 1 ≠ G4) := Lib.hid (by rw [← HG_.out]; omega)
    have HG0 : Hid (w.heap.size ≠ G4) := Lib.hid (by rw [← HG_.out]; omega)
    have HGB : Hid (W1.heap.size ≤ G4) := Lib.hid (by rw [← HG_.out]; exact HGB0.out)
    clear HG_ hlt1 hlt0 HGB0
    have x0_0 := (HLay.out.blk 0 rfl).cell 0
    have x0_1 := (HLay.out.blk 0 rfl).cell 1
    have x0_2 := (HLay.out.blk 0 rfl).cell 2
    have x0_3 := (HLay.out.blk 0 rfl).cell 3
    have l0_ := HLay.out.lt 0 rfl
    have q0 := HBR.out.rowCell HRR.out
    have q0l := HBR.out.top.lt
    have hkn : na < n := by have h1 := HN.out; have h2 := HLA.out; omega
    have hn13 : n ≤ 13 := by have h1 := HN.out; have h2 := HV.out; omega
    gi_wp2
    clear q0 q0l hn13 hkn
    clear x0_0 x0_1 x0_2 x0_3 l0_
    refine wpIn_loop (fun a W => ∃ (c : Nat), Hid (Ex2 fun (lo hi : Int) => c ≤ N ∧ Lay w W [(w.heap.size, 26, #[.int .i64 m.fountains, .slice Av nv cv, .slice Aa na ca, .slice At nt ct]), (w.heap.size + 1, 30, #[.int .i64 0, .int .i64 0]), (G4, 30, #[.int .i64 lo, .int .i64 hi])] ∧ BR W1 W N g rs bs ∧ SpanOf (GnN m fountain L c) (lo, hi)) ∧ FrGnR (.int .i64 fountain) (.pointer (some ⟨w.heap.size, 0, none⟩)) (.pointer (some ⟨w.heap.size + 1, 0, none⟩)) (.pointer (some ⟨G4, 0, none⟩)) (.slice (some ⟨r, 0, none⟩) N N) (.int .i64 (N : Int)) (.int .i64 (c : Int))  a) (fun a _ => N - (intOf (a.tmps.getD 41 undef)).toNat) ?_ ?_
    ·exact ⟨0, Lib.hid ⟨0, -1, by omega, HLay.out, HBR.out, .inl ⟨fun _ => gn_start, rfl⟩⟩, by constructor⟩
    clear HLay HBR
    rintro a W ⟨c, HS, ha⟩
    cases ha
    obtain ⟨lo, hi, hs9⟩ := HS.out
    replace HS := Lib.hid hs9
    clear hs9
    have HLay := Lib.hid HS.out.2.1
    have HBR := Lib.hid HS.out.2.2.1
    by_cases hlt : c < N
    ·
     obtain ⟨bv, q1, hbP, q1l⟩ := rowAt HBR.out HTAB.out HRR.out HRW.out hlt
     have hn9 := HN9.out
     have HBP := Lib.hid hbP
     clear hbP
     cases bv with
     | false =>
      gi_wp2
      have hno : ¬ Truth m fountain L m.acts.length (decN m c) := fun h => by rw [HLA.out] at h; have := HBP.out.2 h; cases this
      refine ⟨⟨c + 1, Lib.hid ⟨lo, hi, hlt, HLay.out, HBR.out, HS.out.2.2.2.keep (gn_skip hno)⟩, by rw [show ((c + 1 : Nat) : Int) = (c : Int) + 1 from by omega]; constructor⟩, ?_⟩
      simp [intOf] <;> omega
     | true =>
      have HTC : Hid (Truth m fountain L m.acts.length (decN m c)) := Lib.hid (by rw [HLA.out]; exact HBP.out.1 rfl)
      have x0_0 := (HLay.out.blk 0 rfl).cell 0
      have x0_1 := (HLay.out.blk 0 rfl).cell 1
      have x0_2 := (HLay.out.blk 0 rfl).cell 2
      have x0_3 := (HLay.out.blk 0 rfl).cell 3
      have l0_ := HLay.out.lt 0 rfl
      gi_wp2
      clear q1 q1l
      clear x0_0 x0_1 x0_2 x0_3 l0_
      refine ⟨trivial, (callsIn_wide.2 (callsIn_wide.1 (rfilled_in Av nv cv Aa na ca At nt ct m fountain W (HM.out.up HLay.out.1) HK.out))).mono ?_⟩
      rintro e W5 ⟨rfl, hb⟩
      replace HLay := Lib.hid (HLay.out.below hb)
      replace HBR := Lib.hid (HBR.out.below hb)
      clear hb
      obtain ⟨F, hF⟩ : ∃ F, filledM m fountain = F := ⟨_, rfl⟩
      rw [hF]
      have HF := Lib.hid hF
      have hFb : 0 ≤ F ∧ F ≤ 24000 := by rw [← HF.out]; exact filled_bd HK.out HL.out
      have HFB := Lib.hid hFb
      clear hF hFb
      have x0_0 := (HLay.out.blk 0 rfl).cell 0
      have x0_1 := (HLay.out.blk 0 rfl).cell 1
      have x0_2 := (HLay.out.blk 0 rfl).cell 2
      have x0_3 := (HLay.out.blk 0 rfl).cell 3
      have l0_ := HLay.out.lt 0 rfl
      gi_wp2
      clear x0_0 x0_1 x0_2 x0_3 l0_
      refine ⟨trivial, (callsIn_wide.2 (callsIn_wide.1 (rdec_in Av nv cv Aa na ca At nt ct m (c : Int) W5 (HM.out.up HLay.out.1) (okMix_ves HK.out) HV.out.1 (by have := HN9.out; omega)))).mono ?_⟩
      rintro e W6 ⟨rfl, hb⟩
      replace HLay := Lib.hid (HLay.out.below hb)
      replace HBR := Lib.hid (HBR.out.below hb)
      clear hb
      obtain ⟨s, hs⟩ : ∃ s, decN m c = s := ⟨_, rfl⟩
      rw [show decH m (c : Int) = s from hs]
      have HSD := Lib.hid hs
      have hrg : ∀ i : Nat, i < 4 → 0 ≤ heldAt s (i : Int) ∧ heldAt s (i : Int) ≤ 12 := by rw [← HSD.out]; exact fun i hi => dec_bd HK.out c i hi
      have HRG := Lib.hid hrg
      clear hs hrg
      gi_wp2
      refine wpIn_loop (fun a W' => ∃ (j : Nat), Hid (j ≤ 4 ∧ W' = W6) ∧ FrGnS (.int .i64 fountain) (.pointer (some ⟨w.heap.size, 0, none⟩)) (.pointer (some ⟨w.heap.size + 1, 0, none⟩)) (.pointer (some ⟨G4, 0, none⟩)) (.int .i64 (c : Int)) (.int .i64 (F - pS s j)) (.slice (some ⟨r, 0, none⟩) N N) (.int .i64 (N : Int)) (.int .i64 (c : Int)) (.agg #[.int .i64 (heldAt s 0), .int .i64 (heldAt s 1), .int .i64 (heldAt s 2), .int .i64 (heldAt s 3)]) (.int .i64 (j : Int)) a) (fun a _ => 4 - (intOf (a.tmps.getD 54 undef)).toNat) ?_ ?_
      ·exact ⟨0, Lib.hid ⟨by omega, rfl⟩, by rw [show F - pS s 0 = F from by unfold pS; omega]; constructor⟩
      rintro a WX ⟨j, HJ, ha⟩
      cases ha
      have hj9 := HJ.out.1
      obtain rfl : W6 = WX := HJ.out.2.symm
      by_cases hj : j < 4
      ·
       have hix := ix_held s hj W6
       have h1 := pS_bd HRG.out (j := j) (by omega)
       have h2 := HRG.out j hj
       have h3 := HFB.out
       have hps : pS s (j + 1) = pS s j + heldAt s (j : Int) := rfl
       have HPS := Lib.hid hps
       clear hps
       gi_wp2
       refine ⟨⟨j + 1, Lib.hid (by first | exact ⟨hj, rfl⟩ | exact hj), by rw [show F - pS s (j + 1) = F - pS s j - heldAt s (j : Int) from by rw [HPS.out]; omega, show ((j + 1 : Nat) : Int) = (j : Int) + 1 from by omega]; constructor⟩, ?_⟩
       simp [intOf] <;> omega
      ·
       have hj4 : j = 4 := by omega
       subst hj4
       rw [pS_four]
       have x2_0 := (HLay.out.blk 2 rfl).cell 0
       have x2_1 := (HLay.out.blk 2 rfl).cell 1
       have l2_ := HLay.out.lt 2 rfl
       gi_wp2
       clear x2_0 x2_1 l2_
       refine ⟨trivial, (callsIn_wide.2 (callsIn_wide.1 (rwide_in lo hi (F - sumH s) W6))).mono ?_⟩
       rintro e W7 ⟨rfl, hb⟩
       replace HLay := Lib.hid (HLay.out.below hb)
       replace HBR := Lib.hid (HBR.out.below hb)
       clear hb
       obtain ⟨lo2, hlo2⟩ : ∃ x, (wideS (lo, hi) (F - sumH s)).1 = x := ⟨_, rfl⟩
       obtain ⟨hi2, hhi2⟩ : ∃ x, (wideS (lo, hi) (F - sumH s)).2 = x := ⟨_, rfl⟩
       rw [hlo2, hhi2]
       have HW2 : Hid ((lo2, hi2) = wideS (lo, hi) (filledM m fountain - sumH (decN m c))) := Lib.hid (by rw [← hlo2, ← hhi2, HF.out, HSD.out])
       clear hlo2 hhi2
       have x2_0 := (HLay.out.blk 2 rfl).cell 0
       have z2_0 := (HLay.out.blk 2 rfl).frozen 0
       have x2_1 := (HLay.out.blk 2 rfl).cell 1
       have z2_1 := (HLay.out.blk 2 rfl).frozen 1
       have l2_ := HLay.out.lt 2 rfl
       gi_upto_region 20 with fail
       clear x2_0 z2_0 x2_1 z2_1 l2_
       have HG9 := Lib.hid (grown_two W7 G4 (.int .i64 (lo2)) (.int .i64 (hi2)))
       have HLS := Lib.hid (lay_two HLay.out HG0.out HG1.out (.int .i64 (lo2)) (.int .i64 (hi2)))
       have HBS := Lib.hid (HBR.out.other HG9.out (HLay.out.blk 2 rfl) (by decide) (by decide) HGB.out)
       generalize (W7.setCell ⟨G4, 0, none⟩ (.int .i64 (lo2))).setCell ⟨G4, 1, none⟩ (.int .i64 (hi2)) = S9 at *
       replace HLay := HLS
       replace HBR := HBS
       clear HLS HBS HG9
       gi_wp2
       refine ⟨⟨c + 1, Lib.hid ⟨lo2, hi2, hlt, HLay.out, HBR.out, by rw [HW2.out]; exact HS.out.2.2.2.add (fun n h => gn_pos HK.out HL.out h) (by have := sum_truth HK.out HL.out HTC.out; omega) (gn_more HTC.out)⟩, by rw [show ((c + 1 : Nat) : Int) = (c : Int) + 1 from by omega]; constructor⟩, ?_⟩
       simp [intOf] <;> omega
    ·
     obtain rfl : N = c := by have := HS.out.1; omega
     have x1_0 := (HLay.out.blk 1 rfl).cell 0
     have z1_0 := (HLay.out.blk 1 rfl).frozen 0
     have x1_1 := (HLay.out.blk 1 rfl).cell 1
     have z1_1 := (HLay.out.blk 1 rfl).frozen 1
     have l1_ := HLay.out.lt 1 rfl
     have x2_0 := (HLay.out.blk 2 rfl).cell 0
     have x2_1 := (HLay.out.blk 2 rfl).cell 1
     have l2_ := HLay.out.lt 2 rfl
     gi_wp2
     have R2 := ret2' (HLay.out.blk 1 rfl) HLay.out.1 (HLay.out.ge 1 rfl) (.int .i64 (lo)) (.int .i64 (hi))
     have v0 := R2.1.cell 0
     have v1 := R2.1.cell 1
     refine bodyPost_ret (v := .tuple #[.agg #[.int .i64 (lo), .int .i64 (hi)], .int .i64 (0)]) (by simp [results, Try.results12, go_sem, v0, v1]) rfl ?_
     exact ⟨lo, hi, 0, rfl, .inr ⟨gone_ok1 HK.out HQ.out, L, HL.out, .inr ⟨HT0.out, rfl, (HS.out.2.2.2.keep (fun x => (gn_end HK.out HL.out HNN.out x).symm)).all (gn_some HT0.out)⟩⟩, R2.2.1⟩
  ·
   have hi : wiB fountain 1 m.fountains = false := decide_eq_false hq
   rw [hi]
   have HQ := Lib.hid hq
   clear hq hi
   have x1_0 := (HLay.out.blk 1 rfl).cell 0
   have z1_0 := (HLay.out.blk 1 rfl).frozen 0
   have x1_1 := (HLay.out.blk 1 rfl).cell 1
   have z1_1 := (HLay.out.blk 1 rfl).frozen 1
   have l1_ := HLay.out.lt 1 rfl
   gi_wp2
   have R2 := ret2' (HLay.out.blk 1 rfl) HLay.out.1 (HLay.out.ge 1 rfl) (.int .i64 (0)) (.int .i64 (0))
   have v0 := R2.1.cell 0
   have v1 := R2.1.cell 1
   refine bodyPost_ret (v := .tuple #[.agg #[.int .i64 (0), .int .i64 (0)], .int .i64 (2)]) (by simp [results, Try.results12, go_sem, v0, v1]) rfl ?_
   exact ⟨0, 0, 2, rfl, .inl ⟨by rw [gone_bad1 HK.out HQ.out]; decide, rfl, (gone_bad1 HK.out HQ.out).symm⟩, R2.2.1⟩

end Go.Proofs.Ythofngceiecniaa
/- mix.copied. -/
namespace Go.Proofs.Ythofngceiecniaa
open Go.RowKit

def Apart (A B : Option Addr) : Prop := ∀ a b, A = some a → B = some b → a.block ≠ b.block
/-- Mixed water whose three slices the call owns, apart from each other. -/
structure MixOwn (w : World) (base : Nat) (A1 : Option Addr) (nv c1 : Nat) (A2 : Option Addr) (na c2 : Nat) (A3 : Option Addr) (nt c3 : Nat) (m : Mix) : Prop where
 v : Own w base 80 2 A1 nv c1 (m.vessels.flatMap Vess.vals)
 a : Own w base 67 4 A2 na c2 (m.acts.flatMap MAct.vals)
 t : Own w base 65 6 A3 nt c3 (m.tastes.flatMap Tast.vals)
 va : Apart A1 A2
 vt : Apart A1 A3
 at_ : Apart A2 A3
end Go.Proofs.Ythofngceiecniaa
/- Words for mixed water that is changed. -/
namespace Go.Proofs.Ythofngceiecniaa
open Go.RowKit

section
variable {w W W' : World} {base : Nat} {A1 A2 A3 : Option Addr} {nv c1 na c2 nt c3 : Nat} {m : Mix}
theorem MixOwn.s (h : MixOwn W base A1 nv c1 A2 na c2 A3 nt c3 m) (hv : nv ≤ 1000) (ha : na ≤ 1000) (ht : nt ≤ 1000) : MixS W A1 nv A2 na A3 nt m := ⟨⟨h.v.reads (Nat.le_refl _), h.a.reads (Nat.le_refl _), h.t.reads (Nat.le_refl _)⟩, hv, ha, ht⟩
theorem MixOwn.below (h : MixOwn W base A1 nv c1 A2 na c2 A3 nt c3 m) (hb : Below W.heap.size W W') : MixOwn W' base A1 nv c1 A2 na c2 A3 nt c3 m := ⟨h.v.below hb (Nat.le_refl _), h.a.below hb (Nat.le_refl _), h.t.below hb (Nat.le_refl _), h.va, h.vt, h.at_⟩
theorem MixOwn.mono (h : MixOwn W base A1 nv c1 A2 na c2 A3 nt c3 m) {b' : Nat} (hb : b' ≤ base) : MixOwn W b' A1 nv c1 A2 na c2 A3 nt c3 m := ⟨h.v.mono hb, h.a.mono hb, h.t.mono hb, h.va, h.vt, h.at_⟩
theorem own_off {e : TypeId} {size n cap g : Nat} {A : Option Addr} {xs : List Value} (h : Own W base e size A n cap xs) (hg : W.grownBy W' (some g)) (hlt : g < base) : Own W' base e size A n cap xs := h.grown hg (fun a ha e => by have := (h.lt ha).1; have := Option.some.inj e; omega)
theorem MixOwn.off {g : Nat} (h : MixOwn W base A1 nv c1 A2 na c2 A3 nt c3 m) (hg : W.grownBy W' (some g)) (hlt : g < base) : MixOwn W' base A1 nv c1 A2 na c2 A3 nt c3 m := ⟨own_off h.v hg hlt, own_off h.a hg hlt, own_off h.t hg hlt, h.va, h.vt, h.at_⟩
theorem MixOwn.nothing (W : World) (base : Nat) : MixOwn W base none 0 0 none 0 0 none 0 0 zeroMix := ⟨Own.none_ _ _ _ _, Own.none_ _ _ _ _, Own.none_ _ _ _ _, fun a b h => (by cases h), fun a b h => (by cases h), fun a b h => (by cases h)⟩
theorem apart_row {A B : Option Addr} (h : Apart A B) : ∀ a, A = some a → some a.block ≠ B.map (·.block) := by
 intro a ha e
 cases hB : B with
 | none => rw [hB] at e; cases e
 | some b => rw [hB] at e; exact h a b ha hB (Option.some.inj e)
theorem apart_grow {B A9 : Option Addr} {A : Option Addr} {e : TypeId} {size n cap : Nat} {xs : List Value} (h : Apart A B) (ho : Own W base e size A n cap xs) (hA : A9 = B ∨ A9 = some ⟨W.heap.size, 0, none⟩) : Apart A A9 := by
 intro a b ha hb
 rcases hA with e1 | e1
 ·exact h a b ha (e1 ▸ hb)
 ·rw [e1] at hb
  cases hb
  have := (ho.lt ha).2
  dsimp only
  omega
theorem Apart.symm {A B : Option Addr} (h : Apart A B) : Apart B A := fun a b ha hb e => h b a hb ha e.symm
/-- The acts grown. -/
theorem MixOwn.acts {A9 : Option Addr} {c9 : Nat} {x : MAct} (h : MixOwn W base A1 nv c1 A2 na c2 A3 nt c3 m) (hg : W.grownBy W' (A2.map (·.block))) (ho : Own W' base 67 4 A9 (na + 1) c9 (m.acts.flatMap MAct.vals ++ x.vals)) (hA : A9 = A2 ∨ A9 = some ⟨W.heap.size, 0, none⟩) :
  MixOwn W' base A1 nv c1 A9 (na + 1) c9 A3 nt c3 (withA m (m.acts ++ [x])) := by
 refine ⟨h.v.grown hg (apart_row h.va), ?_, h.t.grown hg (apart_row h.at_.symm), apart_grow h.va h.v hA, h.vt, (apart_grow h.at_.symm h.t hA).symm⟩
 show Own W' base _ 4 A9 (na + 1) c9 ((m.acts ++ [x]).flatMap MAct.vals)
 rw [List.flatMap_append]
 simpa using ho
end
end Go.Proofs.Ythofngceiecniaa
/- The insertion sort of tastes, all but the last of which rise: the last goes to its place (behind its equals). -/
namespace Go.Proofs.Ythofngceiecniaa
open Go.RowKit

instance : Inhabited Tast := ⟨⟨0, 0, 0, 0, 0, 0⟩⟩
end Go.Proofs.Ythofngceiecniaa
/- Words for the answer's changes. -/
namespace Go.Proofs.Ythofngceiecniaa
open Go.RowKit

section
variable {w W W' : World} {base : Nat} {A1 A2 A3 : Option Addr} {nv c1 na c2 nt c3 : Nat} {m : Mix}
theorem MixNew.below (h : MixNew W base A1 nv c1 A2 na c2 A3 nt c3 m) (hb : Below W.heap.size W W') : MixNew W' base A1 nv c1 A2 na c2 A3 nt c3 m := ⟨h.v.below hb (Nat.le_refl _), h.a.below hb (Nat.le_refl _), h.t.below hb (Nat.le_refl _)⟩
theorem MixNew.mono {b' : Nat} (h : MixNew W base A1 nv c1 A2 na c2 A3 nt c3 m) (hb : b' ≤ base) : MixNew W b' A1 nv c1 A2 na c2 A3 nt c3 m := ⟨h.v.mono hb, h.a.mono hb, h.t.mono hb⟩
theorem MixNew.off {g : Nat} (h : MixNew W base A1 nv c1 A2 na c2 A3 nt c3 m) (hg : W.grownBy W' (some g)) (hlt : g < base) : MixNew W' base A1 nv c1 A2 na c2 A3 nt c3 m := ⟨own_off h.v hg hlt, own_off h.a hg hlt, own_off h.t hg hlt⟩
theorem MixNew.s (h : MixNew W base A1 nv c1 A2 na c2 A3 nt c3 m) (hv : nv ≤ 1000) (ha : na ≤ 1000) (ht : nt ≤ 1000) : MixS W A1 nv A2 na A3 nt m := ⟨⟨h.v.reads (Nat.le_refl _), h.a.reads (Nat.le_refl _), h.t.reads (Nat.le_refl _)⟩, hv, ha, ht⟩
theorem MixNew.acts {A9 : Option Addr} {n9 c9 b9 : Nat} {l : List MAct} (h : MixNew W base A1 nv c1 A2 na c2 A3 nt c3 m) (hb : Below W.heap.size W W') (ho : Own W' b9 67 4 A9 n9 c9 (l.flatMap MAct.vals)) (h9 : base ≤ b9) : MixNew W' base A1 nv c1 A9 n9 c9 A3 nt c3 (withA m l) := ⟨(h.below hb).v, ho.mono h9, (h.below hb).t⟩
theorem MixS.nothing (W : World) : MixS W none 0 none 0 none 0 zeroMix := ⟨⟨Reads.none_, Reads.none_, Reads.none_⟩, by omega, by omega, by omega⟩
end
end Go.Proofs.Ythofngceiecniaa
/- Words for Mix' laws. -/
namespace Go.Proofs.Ythofngceiecniaa
open Go.RowKit

theorem greatB_false {nv na nt : Nat} (h : greatB nv na nt = false) : nv ≤ 8 ∧ na ≤ 24 ∧ nt ≤ 16 := by
 unfold greatB at h
 simp at h
 omega
def LawOut (w : World) (e : Ending) (w' : World) : Prop := e = .returned (.bool true) ∧ Below w.heap.size w w'
end Go.Proofs.Ythofngceiecniaa
/- aguadorlaw04.MixMoves. -/
namespace Go.Proofs.Ythofngceiecniaa
open Go.RowKit

set_option maxRecDepth 100000 in
set_option maxHeartbeats 16000000 in
theorem mmoves_in (Av : Option Addr) (nv cv : Nat) (Aa : Option Addr) (na ca : Nat) (At : Option Addr) (nt ct : Nat) (m : Mix) (act fountain : Int) (w : World) (h : MixAt w w.heap.size Av nv Aa na At nt m) :
  CallsIn Fence.wide 9 Try.prog 3 #[.agg #[.int .i64 m.fountains, .slice Av nv cv, .slice Aa na ca, .slice At nt ct], .int .i64 act, .int .i64 fountain] w (LawOut w) := by
 refine callsIn_of_wp Try.func3 rfl trivial ?_ rfl
 simp only [Try.ntmps3, List.size_toArray, List.length_cons, List.length_nil, Nat.reduceAdd, Nat.reduceSub, Array.replicate_succ, Array.replicate_zero, List.push_toArray, List.append_toArray, List.nil_append, List.cons_append]
 gi_upto_region 1 with fail
 have HLay := Lib.hid (Lay.one w 26 #[.int .i64 m.fountains, .slice Av nv cv, .slice Aa na ca, .slice At nt ct])
 generalize (w.alloc (.cells #[.int .i64 m.fountains, .slice Av nv cv, .slice Aa na ca, .slice At nt ct] 26)) = w0 at *
 have x0_0 := (HLay.out.blk 0 rfl).cell 0
 have x0_1 := (HLay.out.blk 0 rfl).cell 1
 have x0_2 := (HLay.out.blk 0 rfl).cell 2
 have x0_3 := (HLay.out.blk 0 rfl).cell 3
 have l0_ := HLay.out.lt 0 rfl
 gi_wp2
 clear x0_0 x0_1 x0_2 x0_3 l0_
 refine ⟨trivial, (callsIn_wide.2 (great_any m.fountains Av nv cv Aa na ca At nt ct w0)).mono ?_⟩
 rintro e W1 ⟨rfl, hb⟩
 replace HLay := Lib.hid (HLay.out.below hb)
 clear hb
 cases hg : greatB nv na nt with
 | true =>
  gi_wp2
  refine bodyPost_ret (v := .bool true) (by simp [results, Try.results3, go_sem]) rfl ?_
  exact ⟨rfl, HLay.out.1⟩
 | false =>
  have hsm := greatB_false hg
  have hsx : MixS w Av nv Aa na At nt m := ⟨h, by omega, by omega, by omega⟩
  have HM := Lib.hid hsx
  have HSM := Lib.hid hsm
  clear hg h hsx hsm
  have x0_0 := (HLay.out.blk 0 rfl).cell 0
  have x0_1 := (HLay.out.blk 0 rfl).cell 1
  have x0_2 := (HLay.out.blk 0 rfl).cell 2
  have x0_3 := (HLay.out.blk 0 rfl).cell 3
  have l0_ := HLay.out.lt 0 rfl
  gi_wp2
  clear x0_0 x0_1 x0_2 x0_3 l0_
  refine ⟨trivial, (callsIn_wide.2 (callsIn_wide.1 (twin_in Av nv cv Aa na ca At nt ct m W1 (HM.out.up HLay.out.1)))).mono ?_⟩
  rintro e W2 ⟨A1, c1, A2, c2, A3, c3, rfl, hmo, hb⟩
  replace HLay := Lib.hid (HLay.out.below hb)
  clear hb
  have HTW := Lib.hid hmo
  clear hmo
  gi_upto_region 4 with fail
  obtain ⟨V3, hV⟩ : ∃ V, (W2.alloc (.cells #[.int .i64 m.fountains, .slice A1 nv c1, .slice A2 na c2, .slice A3 nt c3] 26)) = V := ⟨_, rfl⟩
  rw [hV]
  have hb := fbox_bel hV
  have hnew := fbox_blk hV
  have hge := HLay.out.bel.size
  replace HLay := Lib.hid (HLay.out.below hb)
  replace HTW := Lib.hid (HTW.out.below hb)
  replace HLay := Lib.hid (HLay.out.add hge hnew)
  clear hnew hge hb hV
  obtain ⟨G4, hG⟩ : ∃ g, W2.heap.size = g := ⟨_, rfl⟩
  rw [hG] at HLay ⊢
  clear hG
  have x1_0 := (HLay.out.blk 1 rfl).cell 0
  have x1_1 := (HLay.out.blk 1 rfl).cell 1
  have x1_2 := (HLay.out.blk 1 rfl).cell 2
  have x1_3 := (HLay.out.blk 1 rfl).cell 3
  have l1_ := HLay.out.lt 1 rfl
  gi_wp2
  clear x1_0 x1_1 x1_2 x1_3 l1_
  refine ⟨trivial, (callsIn_wide.2 (callsIn_wide.1 (moved_any A1 nv c1 A2 na c2 A3 nt c3 m act fountain V3 (HTW.out.s (by have := HSM.out; omega) (by have := HSM.out; omega) (by have := HSM.out; omega))))).mono ?_⟩
  rintro e W5 ⟨lo, hi, ea, rfl, hma, hb⟩
  replace HLay := Lib.hid (HLay.out.below hb)
  replace HTW := Lib.hid (HTW.out.below hb)
  clear hb
  have HMA := Lib.hid hma
  clear hma
  gi_upto_region 5 with fail
  obtain ⟨V6, hV⟩ : ∃ V, (W5.alloc (.cells #[.int .i64 lo, .int .i64 hi] 30)) = V := ⟨_, rfl⟩
  rw [hV]
  have hb := fbox_bel hV
  have hnew := fbox_blk hV
  have hge := HLay.out.bel.size
  replace HLay := Lib.hid (HLay.out.below hb)
  replace HTW := Lib.hid (HTW.out.below hb)
  replace HLay := Lib.hid (HLay.out.add hge hnew)
  clear hnew hge hb hV
  obtain ⟨G7, hG⟩ : ∃ g, W5.heap.size = g := ⟨_, rfl⟩
  rw [hG] at HLay ⊢
  clear hG
  replace HLay := Lib.hid (show Lay w V6 [(w.heap.size, 26, #[.int .i64 m.fountains, .slice Av nv cv, .slice Aa na ca, .slice At nt ct]), (G4, 26, #[.int .i64 m.fountains, .slice A1 nv c1, .slice A2 na c2, .slice A3 nt c3]), (G7, 30, #[.int .i64 lo, .int .i64 hi])] from HLay.out)
  have x0_0 := (HLay.out.blk 0 rfl).cell 0
  have x0_1 := (HLay.out.blk 0 rfl).cell 1
  have x0_2 := (HLay.out.blk 0 rfl).cell 2
  have x0_3 := (HLay.out.blk 0 rfl).cell 3
  have l0_ := HLay.out.lt 0 rfl
  gi_wp2
  clear x0_0 x0_1 x0_2 x0_3 l0_
  refine ⟨trivial, (callsIn_wide.2 (callsIn_wide.1 (rmvd_in Av nv cv Aa na ca At nt ct m act fountain V6 (HM.out.up HLay.out.1)))).mono ?_⟩
  rintro e W8 ⟨lo9, hi9, ea9, rfl, hma9, hb⟩
  replace HLay := Lib.hid (HLay.out.below hb)
  replace HTW := Lib.hid (HTW.out.below hb)
  clear hb
  obtain ⟨e1, rfl⟩ := MovedIs.same hma9 HMA.out
  obtain ⟨rfl, rfl⟩ : lo9 = lo ∧ hi9 = hi := ⟨congrArg Prod.fst e1, congrArg Prod.snd e1⟩
  clear e1 hma9 HMA
  gi_upto_region 6 with fail
  obtain ⟨V9, hV⟩ : ∃ V, (W8.alloc (.cells #[.int .i64 lo9, .int .i64 hi9] 30)) = V := ⟨_, rfl⟩
  rw [hV]
  have hb := fbox_bel hV
  have hnew := fbox_blk hV
  have hge := HLay.out.bel.size
  replace HLay := Lib.hid (HLay.out.below hb)
  replace HTW := Lib.hid (HTW.out.below hb)
  replace HLay := Lib.hid (HLay.out.add hge hnew)
  clear hnew hge hb hV
  obtain ⟨G10, hG⟩ : ∃ g, W8.heap.size = g := ⟨_, rfl⟩
  rw [hG] at HLay ⊢
  clear hG
  replace HLay := Lib.hid (show Lay w V9 [(w.heap.size, 26, #[.int .i64 m.fountains, .slice Av nv cv, .slice Aa na ca, .slice At nt ct]), (G4, 26, #[.int .i64 m.fountains, .slice A1 nv c1, .slice A2 na c2, .slice A3 nt c3]), (G7, 30, #[.int .i64 lo9, .int .i64 hi9]), (G10, 30, #[.int .i64 lo9, .int .i64 hi9])] from HLay.out)
  have x1_0 := (HLay.out.blk 1 rfl).cell 0
  have x1_1 := (HLay.out.blk 1 rfl).cell 1
  have x1_2 := (HLay.out.blk 1 rfl).cell 2
  have x1_3 := (HLay.out.blk 1 rfl).cell 3
  have l1_ := HLay.out.lt 1 rfl
  gi_wp2
  clear x1_0 x1_1 x1_2 x1_3 l1_
  refine ⟨trivial, (callsIn_wide.2 (callsIn_wide.1 (gone_any A1 nv c1 A2 na c2 A3 nt c3 m fountain V9 (HTW.out.s (by have := HSM.out; omega) (by have := HSM.out; omega) (by have := HSM.out; omega))))).mono ?_⟩
  rintro e W11 ⟨go, gi, eb, rfl, hma, hb⟩
  replace HLay := Lib.hid (HLay.out.below hb)
  replace HTW := Lib.hid (HTW.out.below hb)
  clear hb
  have HMA := Lib.hid hma
  clear hma
  gi_upto_region 7 with fail
  obtain ⟨V12, hV⟩ : ∃ V, (W11.alloc (.cells #[.int .i64 go, .int .i64 gi] 30)) = V := ⟨_, rfl⟩
  rw [hV]
  have hb := fbox_bel hV
  have hnew := fbox_blk hV
  have hge := HLay.out.bel.size
  replace HLay := Lib.hid (HLay.out.below hb)
  replace HTW := Lib.hid (HTW.out.below hb)
  replace HLay := Lib.hid (HLay.out.add hge hnew)
  clear hnew hge hb hV
  obtain ⟨G13, hG⟩ : ∃ g, W11.heap.size = g := ⟨_, rfl⟩
  rw [hG] at HLay ⊢
  clear hG
  replace HLay := Lib.hid (show Lay w V12 [(w.heap.size, 26, #[.int .i64 m.fountains, .slice Av nv cv, .slice Aa na ca, .slice At nt ct]), (G4, 26, #[.int .i64 m.fountains, .slice A1 nv c1, .slice A2 na c2, .slice A3 nt c3]), (G7, 30, #[.int .i64 lo9, .int .i64 hi9]), (G10, 30, #[.int .i64 lo9, .int .i64 hi9]), (G13, 30, #[.int .i64 go, .int .i64 gi])] from HLay.out)
  have x0_0 := (HLay.out.blk 0 rfl).cell 0
  have x0_1 := (HLay.out.blk 0 rfl).cell 1
  have x0_2 := (HLay.out.blk 0 rfl).cell 2
  have x0_3 := (HLay.out.blk 0 rfl).cell 3
  have l0_ := HLay.out.lt 0 rfl
  gi_wp2
  clear x0_0 x0_1 x0_2 x0_3 l0_
  refine ⟨trivial, (callsIn_wide.2 (callsIn_wide.1 (rgone_in Av nv cv Aa na ca At nt ct m fountain V12 (HM.out.up HLay.out.1)))).mono ?_⟩
  rintro e W14 ⟨go9, gi9, eb9, rfl, hma9, hb⟩
  replace HLay := Lib.hid (HLay.out.below hb)
  replace HTW := Lib.hid (HTW.out.below hb)
  clear hb
  obtain ⟨e1, rfl⟩ := GoneIs.same hma9 HMA.out
  obtain ⟨rfl, rfl⟩ : go9 = go ∧ gi9 = gi := ⟨congrArg Prod.fst e1, congrArg Prod.snd e1⟩
  clear e1 hma9 HMA
  gi_upto_region 8 with fail
  obtain ⟨V15, hV⟩ : ∃ V, (W14.alloc (.cells #[.int .i64 go9, .int .i64 gi9] 30)) = V := ⟨_, rfl⟩
  rw [hV]
  have hb := fbox_bel hV
  have hnew := fbox_blk hV
  have hge := HLay.out.bel.size
  replace HLay := Lib.hid (HLay.out.below hb)
  replace HTW := Lib.hid (HTW.out.below hb)
  replace HLay := Lib.hid (HLay.out.add hge hnew)
  clear hnew hge hb hV
  obtain ⟨G16, hG⟩ : ∃ g, W14.heap.size = g := ⟨_, rfl⟩
  rw [hG] at HLay ⊢
  clear hG
  replace HLay := Lib.hid (show Lay w V15 [(w.heap.size, 26, #[.int .i64 m.fountains, .slice Av nv cv, .slice Aa na ca, .slice At nt ct]), (G4, 26, #[.int .i64 m.fountains, .slice A1 nv c1, .slice A2 na c2, .slice A3 nt c3]), (G7, 30, #[.int .i64 lo9, .int .i64 hi9]), (G10, 30, #[.int .i64 lo9, .int .i64 hi9]), (G13, 30, #[.int .i64 go9, .int .i64 gi9]), (G16, 30, #[.int .i64 go9, .int .i64 gi9])] from HLay.out)
  have x0_0 := (HLay.out.blk 0 rfl).cell 0
  have x0_1 := (HLay.out.blk 0 rfl).cell 1
  have x0_2 := (HLay.out.blk 0 rfl).cell 2
  have x0_3 := (HLay.out.blk 0 rfl).cell 3
  have l0_ := HLay.out.lt 0 rfl
  have x1_0 := (HLay.out.blk 1 rfl).cell 0
  have x1_1 := (HLay.out.blk 1 rfl).cell 1
  have x1_2 := (HLay.out.blk 1 rfl).cell 2
  have x1_3 := (HLay.out.blk 1 rfl).cell 3
  have l1_ := HLay.out.lt 1 rfl
  have x2_0 := (HLay.out.blk 2 rfl).cell 0
  have x2_1 := (HLay.out.blk 2 rfl).cell 1
  have l2_ := HLay.out.lt 2 rfl
  have x3_0 := (HLay.out.blk 3 rfl).cell 0
  have x3_1 := (HLay.out.blk 3 rfl).cell 1
  have l3_ := HLay.out.lt 3 rfl
  have x4_0 := (HLay.out.blk 4 rfl).cell 0
  have x4_1 := (HLay.out.blk 4 rfl).cell 1
  have l4_ := HLay.out.lt 4 rfl
  have x5_0 := (HLay.out.blk 5 rfl).cell 0
  have x5_1 := (HLay.out.blk 5 rfl).cell 1
  have l5_ := HLay.out.lt 5 rfl
  gi_wp2
  clear x0_0 x0_1 x0_2 x0_3 l0_ x1_0 x1_1 x1_2 x1_3 l1_ x2_0 x2_1 l2_ x3_0 x3_1 l3_ x4_0 x4_1 l4_ x5_0 x5_1 l5_
  refine ⟨trivial, (callsIn_wide.2 (same_true A1 nv c1 A2 na c2 A3 nt c3 Av cv Aa ca At ct m V15 (HTW.out.s (by have := HSM.out; omega) (by have := HSM.out; omega) (by have := HSM.out; omega)) (HM.out.up HLay.out.1))).mono ?_⟩
  rintro e W17 ⟨rfl, hb⟩
  replace HLay := Lib.hid (HLay.out.below hb)
  replace HTW := Lib.hid (HTW.out.below hb)
  clear hb
  gi_wp2
  refine bodyPost_ret (v := .bool true) (by simp [results, Try.results3, go_sem]) rfl ?_
  exact ⟨rfl, HLay.out.1⟩

end Go.Proofs.Ythofngceiecniaa
/- The arguments of Mix' laws, opened: mixed water, a taste, an act, whole numbers. -/
namespace Go.Proofs.Ythofngceiecniaa
open Go.ChangeShapes Go.WideShapes Go.RowKit Go.Deep Go.Joins
set_option maxRecDepth 100000

theorem flatg_len {α : Type} {vals : α → List Value} {sz : Nat} (hk : ∀ x, (vals x).length = sz) : ∀ l : List α, (l.flatMap vals).length = l.length * sz
 | [] => by simp
 | x :: l => by rw [List.flatMap_cons, List.length_append, hk, flatg_len hk l, List.length_cons, Nat.succ_mul]; omega
theorem flatg_at {α : Type} {vals : α → List Value} {sz : Nat} (hk : ∀ x, (vals x).length = sz) : ∀ {l : List α} {i j : Nat} {x : α}, l[i]? = some x → j < sz → (l.flatMap vals)[i * sz + j]? = (vals x)[j]?
 | [], i, j, x, h, _ => by simp at h
 | y :: l, 0, j, x, h, hj => by
  have : y = x := by simpa using h
  subst this
  rw [List.flatMap_cons, Nat.zero_mul, Nat.zero_add, List.getElem?_append_left (by rw [hk]; exact hj)]
 | y :: l, i + 1, j, x, h, hj => by
  rw [List.flatMap_cons, List.getElem?_append_right (by rw [hk, Nat.succ_mul]; omega), hk, show (i + 1) * sz + j - sz = i * sz + j by rw [Nat.succ_mul]; omega]
  exact flatg_at hk (by simpa using h) hj
section
variable {H : Type} {enc : TypeId × Value → H} {w : World}
theorem cellsInt1 : Try.prog.cellsOf 3 = 1 := by kernel_rfl
theorem cellsMix4 : Try.prog.cellsOf 26 = 4 := by kernel_rfl

theorem vessUnd : ∃ f0 f1, Try.prog.underlying 80 = some (.struct #[f0, f1]) ∧ f0.type = 3 ∧ f1.type = 3 ∧ f0.offset = 0 ∧ f1.offset = 1 :=
 ⟨_, _, Try.underlying80, rfl, rfl, rfl, rfl⟩
theorem cellsVess : Try.prog.cellsOf 80 = 2 := by kernel_rfl
theorem vess_cells {fuel : Nat} {cs : List Value} {x : DataW H × List MemPlace} (h : DataW.trod enc Try.prog w 0 (fun _ => true) true fuel 80 cs = some x) (hl : cs.length = 2) : ∃ l : Vess, cs = l.vals := by
 obtain ⟨f0, f1, hu, t0, t1, z0, z1⟩ := vessUnd
 obtain ⟨xs, n, _, _, _, hlen, hg⟩ := DataW.trod_struct hu h
 match cs, hl, xs, hlen with
 | [c0, c1], _, [y0, y1], _ =>
  have h0 : DataW.trod enc Try.prog w 0 (fun _ => true) true n 3 [c0] = some y0 := by simpa [t0, z0, cellsInt1] using hg 0 f0 rfl
  have h1 : DataW.trod enc Try.prog w 0 (fun _ => true) true n 3 [c1] = some y1 := by simpa [t1, z1, cellsInt1] using hg 1 f1 rfl
  obtain ⟨n0, e0, _, _⟩ := DataW.trod_int Try.underlying3 h0
  obtain ⟨n1, e1, _, _⟩ := DataW.trod_int Try.underlying3 h1
  simp only [List.cons.injEq, and_true] at e0 e1
  subst e0 e1
  exact ⟨⟨n0, n1⟩, rfl⟩
theorem vesss_open {v : Value} {fuel : Nat} {x : DataW H × List MemPlace} (h : DataW.trod enc Try.prog w 0 (fun _ => true) true fuel 22 [v] = some x) :
  ∃ A n c, ∃ l : List Vess, v = .slice A n c ∧ n ≤ c ∧ n ≤ maxLen ∧ c ≤ maxLen ∧ Reads w w.heap.size 2 A n (l.flatMap Vess.vals) := by
 rcases open_slice Try.underlying22 h with ⟨e, _⟩ | ⟨a, len, cap, m, k, D, Pl, e, _, hl, hm, hmm, _, hx⟩
 ·simp only [List.cons.injEq, and_true] at e
  exact ⟨none, 0, 0, [], e, Nat.le_refl _, Nat.zero_le _, Nat.zero_le _, Reads.none_⟩
 ·simp only [List.cons.injEq, and_true] at e
  have hmc : m = cap := by simpa using hmm
  subst hmc
  have hn : ∀ i, i < m → ∃ z : Vess, ∀ j, j < 2 → w.cell? (a.add (i * 2 + j)) = z.vals[j]? := fun i hi => by
   obtain ⟨cs', h1, h2⟩ := hx i hi
   rw [cellsVess] at h1
   obtain ⟨_, hcl, hat⟩ := World.cells?_some h1
   obtain ⟨z, rfl⟩ := vess_cells h2 hcl
   exact ⟨z, fun j hj => by rw [← Go.Deep.add_add, hat j hj]⟩
  letI : Inhabited Vess := ⟨⟨0, 0⟩⟩
  obtain ⟨Z, hZ⟩ := choose_lt hn
  refine ⟨some a, len, m, (List.range len).map Z, e, hl, by omega, hm, by rw [flatg_len vess_k]; simp, fun h0 => ⟨a, rfl, ?_, fun j u hu => ?_⟩⟩
  ·have := World.block_lt_of_cell? w _ (hZ 0 (by omega) 0 (by omega))
   rwa [block_of_add] at this
  ·have hj : j < len * 2 := by
    rcases Nat.lt_or_ge j (len * 2) with h' | h'
    ·exact h'
    ·rw [List.getElem?_eq_none (by rw [flatg_len vess_k]; simpa using h')] at hu; cases hu
   have hz := hZ (j / 2) (by omega) (j % 2) (by omega)
   have ha : ((List.range len).map Z)[j / 2]? = some (Z (j / 2)) := by rw [List.getElem?_map, List.getElem?_range (by omega)]; rfl
   have hf := flatg_at vess_k ha (show j % 2 < 2 by omega)
   rw [show j / 2 * 2 + j % 2 = j by omega] at hf hz
   rw [hz, ← hf, hu]
theorem mactUnd : ∃ f0 f1 f2 f3, Try.prog.underlying 67 = some (.struct #[f0, f1, f2, f3]) ∧ f0.type = 3 ∧ f1.type = 3 ∧ f2.type = 3 ∧ f3.type = 3 ∧ f0.offset = 0 ∧ f1.offset = 1 ∧ f2.offset = 2 ∧ f3.offset = 3 :=
 ⟨_, _, _, _, Try.underlying67, rfl, rfl, rfl, rfl, rfl, rfl, rfl, rfl⟩
theorem cellsMAct : Try.prog.cellsOf 67 = 4 := by kernel_rfl
theorem mact_cells {fuel : Nat} {cs : List Value} {x : DataW H × List MemPlace} (h : DataW.trod enc Try.prog w 0 (fun _ => true) true fuel 67 cs = some x) (hl : cs.length = 4) : ∃ l : MAct, cs = l.vals := by
 obtain ⟨f0, f1, f2, f3, hu, t0, t1, t2, t3, z0, z1, z2, z3⟩ := mactUnd
 obtain ⟨xs, n, _, _, _, hlen, hg⟩ := DataW.trod_struct hu h
 match cs, hl, xs, hlen with
 | [c0, c1, c2, c3], _, [y0, y1, y2, y3], _ =>
  have h0 : DataW.trod enc Try.prog w 0 (fun _ => true) true n 3 [c0] = some y0 := by simpa [t0, z0, cellsInt1] using hg 0 f0 rfl
  have h1 : DataW.trod enc Try.prog w 0 (fun _ => true) true n 3 [c1] = some y1 := by simpa [t1, z1, cellsInt1] using hg 1 f1 rfl
  have h2 : DataW.trod enc Try.prog w 0 (fun _ => true) true n 3 [c2] = some y2 := by simpa [t2, z2, cellsInt1] using hg 2 f2 rfl
  have h3 : DataW.trod enc Try.prog w 0 (fun _ => true) true n 3 [c3] = some y3 := by simpa [t3, z3, cellsInt1] using hg 3 f3 rfl
  obtain ⟨n0, e0, _, _⟩ := DataW.trod_int Try.underlying3 h0
  obtain ⟨n1, e1, _, _⟩ := DataW.trod_int Try.underlying3 h1
  obtain ⟨n2, e2, _, _⟩ := DataW.trod_int Try.underlying3 h2
  obtain ⟨n3, e3, _, _⟩ := DataW.trod_int Try.underlying3 h3
  simp only [List.cons.injEq, and_true] at e0 e1 e2 e3
  subst e0 e1 e2 e3
  exact ⟨⟨n0, n1, n2, n3⟩, rfl⟩
theorem macts_open {v : Value} {fuel : Nat} {x : DataW H × List MemPlace} (h : DataW.trod enc Try.prog w 0 (fun _ => true) true fuel 23 [v] = some x) :
  ∃ A n c, ∃ l : List MAct, v = .slice A n c ∧ n ≤ c ∧ n ≤ maxLen ∧ c ≤ maxLen ∧ Reads w w.heap.size 4 A n (l.flatMap MAct.vals) := by
 rcases open_slice Try.underlying23 h with ⟨e, _⟩ | ⟨a, len, cap, m, k, D, Pl, e, _, hl, hm, hmm, _, hx⟩
 ·simp only [List.cons.injEq, and_true] at e
  exact ⟨none, 0, 0, [], e, Nat.le_refl _, Nat.zero_le _, Nat.zero_le _, Reads.none_⟩
 ·simp only [List.cons.injEq, and_true] at e
  have hmc : m = cap := by simpa using hmm
  subst hmc
  have hn : ∀ i, i < m → ∃ z : MAct, ∀ j, j < 4 → w.cell? (a.add (i * 4 + j)) = z.vals[j]? := fun i hi => by
   obtain ⟨cs', h1, h2⟩ := hx i hi
   rw [cellsMAct] at h1
   obtain ⟨_, hcl, hat⟩ := World.cells?_some h1
   obtain ⟨z, rfl⟩ := mact_cells h2 hcl
   exact ⟨z, fun j hj => by rw [← Go.Deep.add_add, hat j hj]⟩
  letI : Inhabited MAct := ⟨⟨0, 0, 0, 0⟩⟩
  obtain ⟨Z, hZ⟩ := choose_lt hn
  refine ⟨some a, len, m, (List.range len).map Z, e, hl, by omega, hm, by rw [flatg_len act_k]; simp, fun h0 => ⟨a, rfl, ?_, fun j u hu => ?_⟩⟩
  ·have := World.block_lt_of_cell? w _ (hZ 0 (by omega) 0 (by omega))
   rwa [block_of_add] at this
  ·have hj : j < len * 4 := by
    rcases Nat.lt_or_ge j (len * 4) with h' | h'
    ·exact h'
    ·rw [List.getElem?_eq_none (by rw [flatg_len act_k]; simpa using h')] at hu; cases hu
   have hz := hZ (j / 4) (by omega) (j % 4) (by omega)
   have ha : ((List.range len).map Z)[j / 4]? = some (Z (j / 4)) := by rw [List.getElem?_map, List.getElem?_range (by omega)]; rfl
   have hf := flatg_at act_k ha (show j % 4 < 4 by omega)
   rw [show j / 4 * 4 + j % 4 = j by omega] at hf hz
   rw [hz, ← hf, hu]
theorem tastUnd : ∃ f0 f1 f2 f3 f4, Try.prog.underlying 65 = some (.struct #[f0, f1, f2, f3, f4]) ∧ f0.type = 3 ∧ f1.type = 3 ∧ f2.type = 3 ∧ f3.type = 3 ∧ f4.type = 30 ∧ f0.offset = 0 ∧ f1.offset = 1 ∧ f2.offset = 2 ∧ f3.offset = 3 ∧ f4.offset = 4 :=
 ⟨_, _, _, _, _, Try.underlying65, rfl, rfl, rfl, rfl, rfl, rfl, rfl, rfl, rfl, rfl⟩
theorem spanUnd : ∃ f0 f1, Try.prog.underlying 30 = some (.struct #[f0, f1]) ∧ f0.type = 3 ∧ f1.type = 3 ∧ f0.offset = 0 ∧ f1.offset = 1 :=
 ⟨_, _, Try.underlying30, rfl, rfl, rfl, rfl⟩
theorem cellsTast : Try.prog.cellsOf 65 = 6 := by kernel_rfl
theorem cellsSpan : Try.prog.cellsOf 30 = 2 := by kernel_rfl
theorem tast_cells {fuel : Nat} {cs : List Value} {x : DataW H × List MemPlace} (h : DataW.trod enc Try.prog w 0 (fun _ => true) true fuel 65 cs = some x) (hl : cs.length = 6) : ∃ l : Tast, cs = l.vals := by
 obtain ⟨f0, f1, f2, f3, f4, hu, t0, t1, t2, t3, t4, z0, z1, z2, z3, z4⟩ := tastUnd
 obtain ⟨g0, g1, hu2, s0, s1, o0, o1⟩ := spanUnd
 obtain ⟨xs, n, _, _, _, hlen, hg⟩ := DataW.trod_struct hu h
 match cs, hl, xs, hlen with
 | [c0, c1, c2, c3, c4, c5], _, [y0, y1, y2, y3, y4], _ =>
  have h0 : DataW.trod enc Try.prog w 0 (fun _ => true) true n 3 [c0] = some y0 := by simpa [t0, z0, cellsInt1] using hg 0 f0 rfl
  have h1 : DataW.trod enc Try.prog w 0 (fun _ => true) true n 3 [c1] = some y1 := by simpa [t1, z1, cellsInt1] using hg 1 f1 rfl
  have h2 : DataW.trod enc Try.prog w 0 (fun _ => true) true n 3 [c2] = some y2 := by simpa [t2, z2, cellsInt1] using hg 2 f2 rfl
  have h3 : DataW.trod enc Try.prog w 0 (fun _ => true) true n 3 [c3] = some y3 := by simpa [t3, z3, cellsInt1] using hg 3 f3 rfl
  have h4 : DataW.trod enc Try.prog w 0 (fun _ => true) true n 30 [c4, c5] = some y4 := by simpa [t4, z4, cellsSpan] using hg 4 f4 rfl
  obtain ⟨xs', n', _, _, _, hlen', hg'⟩ := DataW.trod_struct hu2 h4
  match xs', hlen' with
  | [u0, u1], _ =>
   have k0 : DataW.trod enc Try.prog w 0 (fun _ => true) true n' 3 [c4] = some u0 := by simpa [s0, o0, cellsInt1] using hg' 0 g0 rfl
   have k1 : DataW.trod enc Try.prog w 0 (fun _ => true) true n' 3 [c5] = some u1 := by simpa [s1, o1, cellsInt1] using hg' 1 g1 rfl
   obtain ⟨n0, e0, _, _⟩ := DataW.trod_int Try.underlying3 h0
   obtain ⟨n1, e1, _, _⟩ := DataW.trod_int Try.underlying3 h1
   obtain ⟨n2, e2, _, _⟩ := DataW.trod_int Try.underlying3 h2
   obtain ⟨n3, e3, _, _⟩ := DataW.trod_int Try.underlying3 h3
   obtain ⟨n4, e4, _, _⟩ := DataW.trod_int Try.underlying3 k0
   obtain ⟨n5, e5, _, _⟩ := DataW.trod_int Try.underlying3 k1
   simp only [List.cons.injEq, and_true] at e0 e1 e2 e3 e4 e5
   subst e0 e1 e2 e3 e4 e5
   exact ⟨⟨n0, n1, n2, n3, n4, n5⟩, rfl⟩
theorem tasts_open {v : Value} {fuel : Nat} {x : DataW H × List MemPlace} (h : DataW.trod enc Try.prog w 0 (fun _ => true) true fuel 24 [v] = some x) :
  ∃ A n c, ∃ l : List Tast, v = .slice A n c ∧ n ≤ c ∧ n ≤ maxLen ∧ c ≤ maxLen ∧ Reads w w.heap.size 6 A n (l.flatMap Tast.vals) := by
 rcases open_slice Try.underlying24 h with ⟨e, _⟩ | ⟨a, len, cap, m, k, D, Pl, e, _, hl, hm, hmm, _, hx⟩
 ·simp only [List.cons.injEq, and_true] at e
  exact ⟨none, 0, 0, [], e, Nat.le_refl _, Nat.zero_le _, Nat.zero_le _, Reads.none_⟩
 ·simp only [List.cons.injEq, and_true] at e
  have hmc : m = cap := by simpa using hmm
  subst hmc
  have hn : ∀ i, i < m → ∃ z : Tast, ∀ j, j < 6 → w.cell? (a.add (i * 6 + j)) = z.vals[j]? := fun i hi => by
   obtain ⟨cs', h1, h2⟩ := hx i hi
   rw [cellsTast] at h1
   obtain ⟨_, hcl, hat⟩ := World.cells?_some h1
   obtain ⟨z, rfl⟩ := tast_cells h2 hcl
   exact ⟨z, fun j hj => by rw [← Go.Deep.add_add, hat j hj]⟩
  letI : Inhabited Tast := ⟨⟨0, 0, 0, 0, 0, 0⟩⟩
  obtain ⟨Z, hZ⟩ := choose_lt hn
  refine ⟨some a, len, m, (List.range len).map Z, e, hl, by omega, hm, by rw [flatg_len tast_k]; simp, fun h0 => ⟨a, rfl, ?_, fun j u hu => ?_⟩⟩
  ·have := World.block_lt_of_cell? w _ (hZ 0 (by omega) 0 (by omega))
   rwa [block_of_add] at this
  ·have hj : j < len * 6 := by
    rcases Nat.lt_or_ge j (len * 6) with h' | h'
    ·exact h'
    ·rw [List.getElem?_eq_none (by rw [flatg_len tast_k]; simpa using h')] at hu; cases hu
   have hz := hZ (j / 6) (by omega) (j % 6) (by omega)
   have ha : ((List.range len).map Z)[j / 6]? = some (Z (j / 6)) := by rw [List.getElem?_map, List.getElem?_range (by omega)]; rfl
   have hf := flatg_at tast_k ha (show j % 6 < 6 by omega)
   rw [show j / 6 * 6 + j % 6 = j by omega] at hf hz
   rw [hz, ← hf, hu]
theorem mixUnd : ∃ f0 f1 f2 f3, Try.prog.underlying 26 = some (.struct #[f0, f1, f2, f3]) ∧ (f0.type = 3 ∧ f1.type = 22 ∧ f2.type = 23 ∧ f3.type = 24) ∧ (f0.offset = 0 ∧ f1.offset = 1 ∧ f2.offset = 2 ∧ f3.offset = 3) :=
 ⟨_, _, _, _, Try.underlying26, ⟨rfl, rfl, rfl, rfl⟩, rfl, rfl, rfl, rfl⟩
theorem cellsSlV : Try.prog.cellsOf 22 = 1 := by kernel_rfl
theorem cellsSlA : Try.prog.cellsOf 23 = 1 := by kernel_rfl
theorem cellsSlT : Try.prog.cellsOf 24 = 1 := by kernel_rfl
theorem mix_open {r : Reach} {b0 : Nat} {v : Value} {d : DataW H} {p : List MemPlace} (hv : Value.okWide Try.prog w r b0 26 v) (h : DataW.Trod enc Try.prog w 0 (fun _ => true) true 26 v d p) :
  ∃ Av nv cv Aa na ca At nt ct m, v = .agg #[.int .i64 m.fountains, .slice Av nv cv, .slice Aa na ca, .slice At nt ct] ∧ (na ≤ ca ∧ ca ≤ maxLen) ∧ (nt ≤ ct ∧ ct ≤ maxLen) ∧ MixAt w w.heap.size Av nv Aa na At nt m := by
 obtain ⟨f0, f1, f2, f3, hu, ⟨t0, t1, t2, t3⟩, z0, z1, z2, z3⟩ := mixUnd
 obtain ⟨cs, rfl, hsz⟩ := okWide_struct hu hv
 obtain ⟨fuel, hf⟩ := h
 obtain ⟨xs, n, _, _, _, hlen, hg⟩ := DataW.trod_struct hu hf
 obtain ⟨l⟩ := cs
 match l, hsz.trans cellsMix4, xs, hlen with
 | [c0, c1, c2, c3], _, [y0, y1, y2, y3], _ =>
  have h0 : DataW.trod enc Try.prog w 0 (fun _ => true) true n 3 [c0] = some y0 := by simpa [t0, z0, cellsInt1, Value.cells] using hg 0 f0 rfl
  have h1 : DataW.trod enc Try.prog w 0 (fun _ => true) true n 22 [c1] = some y1 := by simpa [t1, z1, cellsSlV, Value.cells] using hg 1 f1 rfl
  have h2 : DataW.trod enc Try.prog w 0 (fun _ => true) true n 23 [c2] = some y2 := by simpa [t2, z2, cellsSlA, Value.cells] using hg 2 f2 rfl
  have h3 : DataW.trod enc Try.prog w 0 (fun _ => true) true n 24 [c3] = some y3 := by simpa [t3, z3, cellsSlT, Value.cells] using hg 3 f3 rfl
  obtain ⟨f, e0, _, _⟩ := DataW.trod_int Try.underlying3 h0
  simp only [List.cons.injEq, and_true] at e0
  obtain ⟨Av, nv, cv, lv, rfl, _, _, _, hv1⟩ := vesss_open h1
  obtain ⟨Aa, na, ca, la, rfl, ha1, _, ha2, hv2⟩ := macts_open h2
  obtain ⟨At, nt, ct, lt, rfl, ht1, _, ht2, hv3⟩ := tasts_open h3
  subst e0
  exact ⟨Av, nv, cv, Aa, na, ca, At, nt, ct, ⟨f, lv, la, lt⟩, rfl, ⟨ha1, ha2⟩, ⟨ht1, ht2⟩, ⟨hv1, hv2, hv3⟩⟩
end
end Go.Proofs.Ythofngceiecniaa
/- MixMoves: whatever the mixed water and the whole numbers, the law answers true. No conditions. -/
namespace Go.Proofs.Ythofngceiecniaa
open Go.ChangeShapes Go.WideShapes Go.ChangeAt Go.RowKit Go.Joins

theorem ownT : ownKnob Try.prog.godebug = none := by kernel_rfl
theorem laidOutT : laidOutB Try.prog = true := by kernel_rfl

set_option maxRecDepth 100000 in
theorem mixMoves_lifted (os : Os) (started : os.Started) (H : Type) (enc : TypeId × Value → H) :
  ReturnsInHanded {} Try.checked os 3 .any (Rows.mixMovesSpec.pre6 enc Try.prog Try.f3 Rows.mixMovesRow.domain false) (Rows.mixMovesSpec.post enc Try.prog Try.f3 false true false false) := by
 refine returnsInHanded_of_change (C := Try.checked) ownT started (by kernel_rfl) Try.func3
  (ChangeSpec.witness6 (enc := enc) (C := Try.checked) false ⟨#[], #[.agg #[.int .i64 0, .slice none 0 0, .slice none 0 0, .slice none 0 0], .int .i64 0, .int .i64 0], []⟩ 8 (by kernel_rfl) (by kernel_rfl) (by kernel_rfl) (by kernel_rfl)) ?_
 intro W base args ds gs before hval0 hW hcnd _
 have hval : ∀ (j : Nat) t v, Try.f3.params[j]? = some t → args[j]? = some v → Value.okWide Try.prog W .any base t v := hval0
 have hW' := hW
 obtain ⟨p, q, hA0, hV, rfl, hfz, hnd⟩ := hW
 have hA : DataW.TrodAll enc Try.prog W 0 (fun _ => true) true Try.f3.params.toList args.toList ds p := hA0
 rw [Try.params3] at hA hval
 obtain ⟨v0, vs0, d0, ds0, p0, q0, hargs, rfl, rfl, h0, r0⟩ := trodAll_cons hA
 obtain ⟨v1, vs1, d1, ds1, p1, q1, rfl, rfl, rfl, h1, r1⟩ := trodAll_cons r0
 obtain ⟨v2, vs2, d2, ds2, p2, q2, rfl, rfl, rfl, h2, r2⟩ := trodAll_cons r1
 obtain ⟨rfl, rfl, rfl⟩ := trodAll_nil r2
 obtain rfl : args = #[v0, v1, v2] := by cases args; simp_all
 obtain ⟨rfl, rfl⟩ := trodVars_none hV
 have k0 := h0
 have lt0 : ∀ x ∈ p0, x.block < W.heap.size := by obtain ⟨m, hm⟩ := k0; exact DataW.trod_lt m _ _ _ hm
 have k1 := h1
 have lt1 : ∀ x ∈ p1, x.block < W.heap.size := by obtain ⟨m, hm⟩ := k1; exact DataW.trod_lt m _ _ _ hm
 have k2 := h2
 have lt2 : ∀ x ∈ p2, x.block < W.heap.size := by obtain ⟨m, hm⟩ := k2; exact DataW.trod_lt m _ _ _ hm
 obtain ⟨Av, nv, cv, Aa, na, ca, At, nt, ct, m, rfl, hca, hct, hm⟩ := mix_open (hval 0 26 v0 rfl rfl) h0
 obtain ⟨s1, e1⟩ := okWide_int Try.underlying3 (hval 1 3 v1 rfl rfl)
 subst e1
 obtain ⟨s2, e2⟩ := okWide_int Try.underlying3 (hval 2 3 v2 rfl rfl)
 subst e2
 clear hA0 hval0
 refine (callsIn_wide.1 (mmoves_in Av nv cv Aa na ca At nt ct m s1 s2 W hm)).mono fun e W' ⟨he, bel⟩ => ?_
 subst he
 exact ⟨_, rfl, _, _, _, [], _, [], hW', trodAll_mk1 (shut_bool Try.underlying4 _), (trodAll_cons_mk (Below.trod laidOutT (by kernel_rfl) (of_decide_eq_true (by kernel_rfl)) k0 bel lt0) (trodAll_cons_mk (Below.trod laidOutT (by kernel_rfl) (of_decide_eq_true (by kernel_rfl)) k1 bel lt1) (trodAll_cons_mk (Below.trod laidOutT (by kernel_rfl) (of_decide_eq_true (by kernel_rfl)) k2 bel lt2) (trodAll_mk0)))), rfl, bel.frame _, fun h => by cases h⟩

theorem mixMoves_holds : Rows.MixMovesSaid :=
 OpenClaim.holds_of_wide 3 Try.f3 rfl rfl rfl rfl rfl rfl rfl ⟨rfl, rfl, rfl, rfl, rfl⟩ rfl rfl rfl rfl rfl (by kernel_rfl) Try.func3 (by kernel_rfl)
  (of_decide_eq_true (by kernel_rfl)) (by unfold Func.isWrapper; rw [if_neg (of_decide_eq_false (by kernel_rfl))]; exact ⟨rfl, rfl⟩)
  (fun os started H enc _ => mixMoves_lifted os started H enc)
#print axioms mixMoves_holds
end Go.Proofs.Ythofngceiecniaa
