
/- FnTop: a show is replayed to the last bit; what is seen has the symmetries of its mirrors and is spread from its first cells; its beads lie in the wedge; images of a place are folded alike. -/
import Derived.Test.YthlphmojldbpkaaGreatXT
import Derived.ProofKit
import Derived.ChangeOld
import Derived.Deep.RegionHeld3
import Derived.Deep.RegionLaw
import Derived.Below
import Derived.Laws.Cover3
namespace Go.Proofs.YthlphmojldbpkaaGreat
open Go.ChangeShapes Go.WideShapes Go.ChangeAt Go.RowKit
attribute [local go_sem] run_store_float run_store_complex

theorem inS_word {kind : Int} {p z : Nat × Nat} (hk : inB kind 0 3 = true) (hp : pointB p.1 p.2 = true) (h : ImgQ kind p z) : pointB z.1 z.2 = true ∧ (foldP kind z).2.2 = true ∧ cxE (foldP kind z).1 (foldP kind p).1 = true := by
  obtain ⟨g, hg, rfl⟩ := h
  have ht := symsL_in g hg
  have e : actI g.1 g.2 p.1 p.2 = actP g.1 g.2 p.1 p.2 := (actP_yes ht hp).symm
  have hz : pointB (actI g.1 g.2 p.1 p.2).1 (actI g.1 g.2 p.1 p.2).2 = true := by rw [e]; exact actP_point _ _ _ _
  obtain ⟨k1, k2⟩ := actP_key (f := g.2) ht hp
  rw [← e] at k1
  obtain ⟨f1, f2, f3⟩ := fold_same hk hp hz hg k1
  obtain ⟨a, _, fa, _⟩ := firstG_some hk (keyP (actI g.1 g.2 p.1 p.2))
  refine ⟨hz, by rw [foldP_g hz fa], ?_⟩
  have e1 : key (foldP kind (actI g.1 g.2 p.1 p.2)).1.1 = key (foldP kind p).1.1 := congrArg Prod.fst f1
  have e2 : key (foldP kind (actI g.1 g.2 p.1 p.2)).1.2 = key (foldP kind p).1.2 := congrArg Prod.snd f1
  unfold cxE
  rw [eqB_fin f3.1 f2.1, eqB_fin f3.2 f2.2, e1, e2]
  simp
/-- what DoEvent hands back, of a drawn show -/
theorem doEvent_drawn (s : Shw) (e : Ev) (A B L : Option Addr) (c d q : Nat) (w : World) (hd : Drawn s) (he : evG e = true) (hr : RdS w s A B L) :
    Calls Tryz.prog 8 #[.agg #[.int .i64 s.sz, .float .f32 s.st, .float .f32 s.li.1, .float .f32 s.li.2.1, .float .f32 s.li.2.2, .slice A s.sh.length c, .int .i64 s.mir, .complex .f32 s.gr.1 s.gr.2, .float .f32 s.loss, .slice B s.bs.length d, .int .i64 s.tk, .slice L s.log.length q], .agg #[.int .i64 e.k, .int .i64 e.n, .complex .f32 e.z.1 e.z.2, .complex .f32 e.s.1.1 e.s.1.2, .complex .f32 e.s.2.1.1 e.s.2.1.2, .complex .f32 e.s.2.2.1.1 e.s.2.2.1.2, .float .f32 e.s.2.2.2.1.1, .float .f32 e.s.2.2.2.1.2.1, .float .f32 e.s.2.2.2.1.2.2, .float .f32 e.s.2.2.2.2, .float .f32 e.c.1, .float .f32 e.c.2.1, .float .f32 e.c.2.2]] w fun r w' => (∃ (u : Shw) (b : Bool) (A B L : Option Addr) (c d q : Nat), Drawn u ∧ (b = false → u = s) ∧ r = .returned (.tuple #[.agg #[.int .i64 u.sz, .float .f32 u.st, .float .f32 u.li.1, .float .f32 u.li.2.1, .float .f32 u.li.2.2, .slice A u.sh.length c, .int .i64 u.mir, .complex .f32 u.gr.1 u.gr.2, .float .f32 u.loss, .slice B u.bs.length d, .int .i64 u.tk, .slice L u.log.length q], .bool b]) ∧ OwnS w' w.heap.size u A B L c d q) ∧ Below w.heap.size w w' := by
  refine (doEvent_any s e A B L c d q w hd.good hd.ok he hr).mono ?_
  rintro r w' ⟨⟨A2, B2, L2, c2, d2, q2, rfl, own⟩, hb⟩
  exact ⟨⟨_, _, A2, B2, L2, c2, d2, q2, drawn_doD hd he, fun h => (by cases hx : doE s e with | none => rfl | some v => rw [hx] at h; cases h), rfl, own⟩, hb⟩

set_option maxRecDepth 100000 in
set_option maxHeartbeats 32000000 in
theorem lawTop (A : Option Addr) (m c : Nat) (bs : List Int) (w : World) (hr : Rd byteC 1 w w.heap.size A m bs) (hb : ∀ x ∈ bs, 0 ≤ x ∧ x ≤ 255) :
    Calls Tryz.prog 3 #[.slice A m c] w fun e w' => e = .returned (.bool true) ∧ Below w.heap.size w w' := by
  by_cases hbig : (4096 : Int) < m
  · have hd : decide ((4096 : Int) < m) = true := by simp [hbig]
    go_enter Tryz.func3, Tryz.ntmps3
    go_wp2_with (go_at_call 6; refine (bigT_any _ _ _ _).mono ?_; rintro e w' ⟨rfl, rfl⟩; simp only [hd])
    go_ret
    exact ⟨rfl, by (repeat (first | with_reducible assumption | exact Below.refl _ _ | (refine Below.setCell ?_ (by first | exact Nat.le_refl _ | (simp; done) | omega | (simp; omega)) _) | (refine below_drewN ?_ _) | (refine Below.drew ?_) | (refine Below.alloc ?_ (by first | exact Nat.le_refl _ | (simp; done) | omega | (simp; omega)) _) | (refine then_ ?_ (by with_reducible assumption)) | assumption | (refine then_ ?_ (by assumption))))⟩
  · have hd : decide ((4096 : Int) < m) = false := by simp [hbig]
    have hm : m ≤ 4096 := by omega
    have HBS := Lib.hid hb
    have HRB := Lib.hid hr
    go_enter Tryz.func3, Tryz.ntmps3
    go_wp2_with (go_at_call 6; refine (bigT_any _ _ _ _).mono ?_; rintro e w' ⟨rfl, rfl⟩; simp only [hd])
    refine (drawShow_any A m c bs _ hm hr hb).mono ?_
    rintro r w1 ⟨s, e, S, B, L, k, d, q, HD, he, rfl, own, hW⟩
    have KD := Lib.hid (fun w h => doEvent_drawn s e S B L k d q w HD he h)
    have KM := Lib.hid (fun S2 B2 L2 k2 d2 q2 S3 B3 L3 k3 d3 q3 w h1 h2 => sameShow_self s S2 B2 L2 S3 B3 L3 k2 d2 q2 k3 d3 q3 w HD.good HD.ok h1 h2)
    clear hr hb hd hbig HD he
    go_upto_region 4 with fail
    have ca := CA.new w1 #[.int .i64 s.sz, .float .f32 s.st, .float .f32 s.li.1, .float .f32 s.li.2.1, .float .f32 s.li.2.2, .slice S s.sh.length k, .int .i64 s.mir, .complex .f32 s.gr.1 s.gr.2, .float .f32 s.loss, .slice B s.bs.length d, .int .i64 s.tk, .slice L s.log.length q] 34; have fa := FA.new w1 #[.int .i64 s.sz, .float .f32 s.st, .float .f32 s.li.1, .float .f32 s.li.2.1, .float .f32 s.li.2.2, .slice S s.sh.length k, .int .i64 s.mir, .complex .f32 s.gr.1 s.gr.2, .float .f32 s.loss, .slice B s.bs.length d, .int .i64 s.tk, .slice L s.log.length q] 34; replace hW := hW.alloc (hW.size) (Obj.cells #[.int .i64 s.sz, .float .f32 s.st, .float .f32 s.li.1, .float .f32 s.li.2.1, .float .f32 s.li.2.2, .slice S s.sh.length k, .int .i64 s.mir, .complex .f32 s.gr.1 s.gr.2, .float .f32 s.loss, .slice B s.bs.length d, .int .i64 s.tk, .slice L s.log.length q] 34); replace own := own.alloc (own.size) (Obj.cells #[.int .i64 s.sz, .float .f32 s.st, .float .f32 s.li.1, .float .f32 s.li.2.1, .float .f32 s.li.2.2, .slice S s.sh.length k, .int .i64 s.mir, .complex .f32 s.gr.1 s.gr.2, .float .f32 s.loss, .slice B s.bs.length d, .int .i64 s.tk, .slice L s.log.length q] 34); obtain ⟨V1, hV1e⟩ : ∃ V1, V1 = w1.alloc (Obj.cells #[.int .i64 s.sz, .float .f32 s.st, .float .f32 s.li.1, .float .f32 s.li.2.1, .float .f32 s.li.2.2, .slice S s.sh.length k, .int .i64 s.mir, .complex .f32 s.gr.1 s.gr.2, .float .f32 s.loss, .slice B s.bs.length d, .int .i64 s.tk, .slice L s.log.length q] 34) := ⟨_, rfl⟩; have zV1 : V1.heap.size = w1.heap.size + 1 := (by rw [hV1e]; simp); rw [← hV1e] at ca fa hW own; rw [← hV1e]; clear hV1e; have la := ca.lt
    have cb := CA.new V1 #[.int .i64 e.k, .int .i64 e.n, .complex .f32 e.z.1 e.z.2, .complex .f32 e.s.1.1 e.s.1.2, .complex .f32 e.s.2.1.1 e.s.2.1.2, .complex .f32 e.s.2.2.1.1 e.s.2.2.1.2, .float .f32 e.s.2.2.2.1.1, .float .f32 e.s.2.2.2.1.2.1, .float .f32 e.s.2.2.2.1.2.2, .float .f32 e.s.2.2.2.2, .float .f32 e.c.1, .float .f32 e.c.2.1, .float .f32 e.c.2.2] 38; have fb := FA.new V1 #[.int .i64 e.k, .int .i64 e.n, .complex .f32 e.z.1 e.z.2, .complex .f32 e.s.1.1 e.s.1.2, .complex .f32 e.s.2.1.1 e.s.2.1.2, .complex .f32 e.s.2.2.1.1 e.s.2.2.1.2, .float .f32 e.s.2.2.2.1.1, .float .f32 e.s.2.2.2.1.2.1, .float .f32 e.s.2.2.2.1.2.2, .float .f32 e.s.2.2.2.2, .float .f32 e.c.1, .float .f32 e.c.2.1, .float .f32 e.c.2.2] 38; replace ca := ca.alloc (Obj.cells #[.int .i64 e.k, .int .i64 e.n, .complex .f32 e.z.1 e.z.2, .complex .f32 e.s.1.1 e.s.1.2, .complex .f32 e.s.2.1.1 e.s.2.1.2, .complex .f32 e.s.2.2.1.1 e.s.2.2.1.2, .float .f32 e.s.2.2.2.1.1, .float .f32 e.s.2.2.2.1.2.1, .float .f32 e.s.2.2.2.1.2.2, .float .f32 e.s.2.2.2.2, .float .f32 e.c.1, .float .f32 e.c.2.1, .float .f32 e.c.2.2] 38); replace fa := fa.alloc la (Obj.cells #[.int .i64 e.k, .int .i64 e.n, .complex .f32 e.z.1 e.z.2, .complex .f32 e.s.1.1 e.s.1.2, .complex .f32 e.s.2.1.1 e.s.2.1.2, .complex .f32 e.s.2.2.1.1 e.s.2.2.1.2, .float .f32 e.s.2.2.2.1.1, .float .f32 e.s.2.2.2.1.2.1, .float .f32 e.s.2.2.2.1.2.2, .float .f32 e.s.2.2.2.2, .float .f32 e.c.1, .float .f32 e.c.2.1, .float .f32 e.c.2.2] 38); replace hW := hW.alloc (hW.size) (Obj.cells #[.int .i64 e.k, .int .i64 e.n, .complex .f32 e.z.1 e.z.2, .complex .f32 e.s.1.1 e.s.1.2, .complex .f32 e.s.2.1.1 e.s.2.1.2, .complex .f32 e.s.2.2.1.1 e.s.2.2.1.2, .float .f32 e.s.2.2.2.1.1, .float .f32 e.s.2.2.2.1.2.1, .float .f32 e.s.2.2.2.1.2.2, .float .f32 e.s.2.2.2.2, .float .f32 e.c.1, .float .f32 e.c.2.1, .float .f32 e.c.2.2] 38); replace own := own.alloc (own.size) (Obj.cells #[.int .i64 e.k, .int .i64 e.n, .complex .f32 e.z.1 e.z.2, .complex .f32 e.s.1.1 e.s.1.2, .complex .f32 e.s.2.1.1 e.s.2.1.2, .complex .f32 e.s.2.2.1.1 e.s.2.2.1.2, .float .f32 e.s.2.2.2.1.1, .float .f32 e.s.2.2.2.1.2.1, .float .f32 e.s.2.2.2.1.2.2, .float .f32 e.s.2.2.2.2, .float .f32 e.c.1, .float .f32 e.c.2.1, .float .f32 e.c.2.2] 38); obtain ⟨V, hVe⟩ : ∃ V, V = V1.alloc (Obj.cells #[.int .i64 e.k, .int .i64 e.n, .complex .f32 e.z.1 e.z.2, .complex .f32 e.s.1.1 e.s.1.2, .complex .f32 e.s.2.1.1 e.s.2.1.2, .complex .f32 e.s.2.2.1.1 e.s.2.2.1.2, .float .f32 e.s.2.2.2.1.1, .float .f32 e.s.2.2.2.1.2.1, .float .f32 e.s.2.2.2.1.2.2, .float .f32 e.s.2.2.2.2, .float .f32 e.c.1, .float .f32 e.c.2.1, .float .f32 e.c.2.2] 38) := ⟨_, rfl⟩; have zV : V.heap.size = V1.heap.size + 1 := (by rw [hVe]; simp); rw [← hVe] at cb fb ca fa hW own; rw [← hVe]; clear hVe; have lb := cb.lt; replace la := ca.lt
    rw [zV1] at cb fb lb zV
    clear zV1 zV
    have a0 := ca 0 _ rfl; have a1 := ca 1 _ rfl; have a2 := ca 2 _ rfl; have a3 := ca 3 _ rfl; have a4 := ca 4 _ rfl; have a5 := ca 5 _ rfl; have a6 := ca 6 _ rfl; have a7 := ca 7 _ rfl; have a8 := ca 8 _ rfl; have a9 := ca 9 _ rfl; have a10 := ca 10 _ rfl; have a11 := ca 11 _ rfl
    have b0 := cb 0 _ rfl; have b1 := cb 1 _ rfl; have b2 := cb 2 _ rfl; have b3 := cb 3 _ rfl; have b4 := cb 4 _ rfl; have b5 := cb 5 _ rfl; have b6 := cb 6 _ rfl; have b7 := cb 7 _ rfl; have b8 := cb 8 _ rfl; have b9 := cb 9 _ rfl; have b10 := cb 10 _ rfl; have b11 := cb 11 _ rfl; have b12 := cb 12 _ rfl
    have R := Lib.hid own.rd
    go_wp2_with fail
    (with_reducible refine (KD.out _ R.out).mono ?_)
    rintro r w2 ⟨⟨u, ok, S2, B2, L2, k2, d2, q2, HDu, hus, rfl, own2⟩, hb2⟩
    clear a0 a1 a2 a3 a4 a5 a6 a7 a8 a9 a10 a11 b0 b1 b2 b3 b4 b5 b6 b7 b8 b9 b10 b11 b12 R KD cb fb lb
    replace own := own.below hb2
    replace ca := ca.keep hb2; replace fa := fa.keep hb2 la; replace la := ca.lt; replace hW := then_ hW hb2
    clear hb2
    have HU := Lib.hid HDu
    have HUS := Lib.hid hus
    have KP := Lib.hid (fun w h => replayShow_any u S2 B2 L2 k2 d2 q2 w HDu h)
    have KMu := Lib.hid (fun S3 B3 L3 k3 d3 q3 w h1 h2 => sameShow_self u S3 B3 L3 S2 B2 L2 k3 d3 q3 k2 d2 q2 w HDu.good HDu.ok h1 h2)
    clear HDu hus
    go_upto_region 5 with fail
    have ct := CA.new w2 #[.int .i64 u.sz, .float .f32 u.st, .float .f32 u.li.1, .float .f32 u.li.2.1, .float .f32 u.li.2.2, .slice S2 u.sh.length k2, .int .i64 u.mir, .complex .f32 u.gr.1 u.gr.2, .float .f32 u.loss, .slice B2 u.bs.length d2, .int .i64 u.tk, .slice L2 u.log.length q2] 34; have ft := FA.new w2 #[.int .i64 u.sz, .float .f32 u.st, .float .f32 u.li.1, .float .f32 u.li.2.1, .float .f32 u.li.2.2, .slice S2 u.sh.length k2, .int .i64 u.mir, .complex .f32 u.gr.1 u.gr.2, .float .f32 u.loss, .slice B2 u.bs.length d2, .int .i64 u.tk, .slice L2 u.log.length q2] 34; replace ca := ca.alloc (Obj.cells #[.int .i64 u.sz, .float .f32 u.st, .float .f32 u.li.1, .float .f32 u.li.2.1, .float .f32 u.li.2.2, .slice S2 u.sh.length k2, .int .i64 u.mir, .complex .f32 u.gr.1 u.gr.2, .float .f32 u.loss, .slice B2 u.bs.length d2, .int .i64 u.tk, .slice L2 u.log.length q2] 34); replace fa := fa.alloc la (Obj.cells #[.int .i64 u.sz, .float .f32 u.st, .float .f32 u.li.1, .float .f32 u.li.2.1, .float .f32 u.li.2.2, .slice S2 u.sh.length k2, .int .i64 u.mir, .complex .f32 u.gr.1 u.gr.2, .float .f32 u.loss, .slice B2 u.bs.length d2, .int .i64 u.tk, .slice L2 u.log.length q2] 34); replace hW := hW.alloc (hW.size) (Obj.cells #[.int .i64 u.sz, .float .f32 u.st, .float .f32 u.li.1, .float .f32 u.li.2.1, .float .f32 u.li.2.2, .slice S2 u.sh.length k2, .int .i64 u.mir, .complex .f32 u.gr.1 u.gr.2, .float .f32 u.loss, .slice B2 u.bs.length d2, .int .i64 u.tk, .slice L2 u.log.length q2] 34); replace own := own.alloc (own.size) (Obj.cells #[.int .i64 u.sz, .float .f32 u.st, .float .f32 u.li.1, .float .f32 u.li.2.1, .float .f32 u.li.2.2, .slice S2 u.sh.length k2, .int .i64 u.mir, .complex .f32 u.gr.1 u.gr.2, .float .f32 u.loss, .slice B2 u.bs.length d2, .int .i64 u.tk, .slice L2 u.log.length q2] 34); replace own2 := own2.alloc (own2.size) (Obj.cells #[.int .i64 u.sz, .float .f32 u.st, .float .f32 u.li.1, .float .f32 u.li.2.1, .float .f32 u.li.2.2, .slice S2 u.sh.length k2, .int .i64 u.mir, .complex .f32 u.gr.1 u.gr.2, .float .f32 u.loss, .slice B2 u.bs.length d2, .int .i64 u.tk, .slice L2 u.log.length q2] 34); obtain ⟨V3, hV3e⟩ : ∃ V3, V3 = w2.alloc (Obj.cells #[.int .i64 u.sz, .float .f32 u.st, .float .f32 u.li.1, .float .f32 u.li.2.1, .float .f32 u.li.2.2, .slice S2 u.sh.length k2, .int .i64 u.mir, .complex .f32 u.gr.1 u.gr.2, .float .f32 u.loss, .slice B2 u.bs.length d2, .int .i64 u.tk, .slice L2 u.log.length q2] 34) := ⟨_, rfl⟩; have zV3 : V3.heap.size = w2.heap.size + 1 := (by rw [hV3e]; simp); rw [← hV3e] at ct ft ca fa hW own own2; rw [← hV3e]; clear hV3e; have lt := ct.lt; replace la := ca.lt
    clear zV3
    have t0 := ct 0 _ rfl; have t1 := ct 1 _ rfl; have t2 := ct 2 _ rfl; have t3 := ct 3 _ rfl; have t4 := ct 4 _ rfl; have t5 := ct 5 _ rfl; have t6 := ct 6 _ rfl; have t7 := ct 7 _ rfl; have t8 := ct 8 _ rfl; have t9 := ct 9 _ rfl; have t10 := ct 10 _ rfl; have t11 := ct 11 _ rfl
    have R := Lib.hid own2.rd
    go_wp2_with fail
    (with_reducible refine (KP.out _ R.out).mono ?_)
    rintro r w4 ⟨⟨S3, B3, L3, k3, d3, q3, rfl, own3⟩, hb2⟩
    clear t0 t1 t2 t3 t4 t5 t6 t7 t8 t9 t10 t11 R KP
    replace own := own.below hb2
    replace own2 := own2.below hb2
    replace ca := ca.keep hb2; replace fa := fa.keep hb2 la; replace la := ca.lt; replace ct := ct.keep hb2; replace ft := ft.keep hb2 lt; replace lt := ct.lt; replace hW := then_ hW hb2
    clear hb2
    go_upto_region 6 with fail
    have cr := CA.new w4 #[.int .i64 u.sz, .float .f32 u.st, .float .f32 u.li.1, .float .f32 u.li.2.1, .float .f32 u.li.2.2, .slice S3 u.sh.length k3, .int .i64 u.mir, .complex .f32 u.gr.1 u.gr.2, .float .f32 u.loss, .slice B3 u.bs.length d3, .int .i64 u.tk, .slice L3 u.log.length q3] 34; have fr := FA.new w4 #[.int .i64 u.sz, .float .f32 u.st, .float .f32 u.li.1, .float .f32 u.li.2.1, .float .f32 u.li.2.2, .slice S3 u.sh.length k3, .int .i64 u.mir, .complex .f32 u.gr.1 u.gr.2, .float .f32 u.loss, .slice B3 u.bs.length d3, .int .i64 u.tk, .slice L3 u.log.length q3] 34; replace ca := ca.alloc (Obj.cells #[.int .i64 u.sz, .float .f32 u.st, .float .f32 u.li.1, .float .f32 u.li.2.1, .float .f32 u.li.2.2, .slice S3 u.sh.length k3, .int .i64 u.mir, .complex .f32 u.gr.1 u.gr.2, .float .f32 u.loss, .slice B3 u.bs.length d3, .int .i64 u.tk, .slice L3 u.log.length q3] 34); replace fa := fa.alloc la (Obj.cells #[.int .i64 u.sz, .float .f32 u.st, .float .f32 u.li.1, .float .f32 u.li.2.1, .float .f32 u.li.2.2, .slice S3 u.sh.length k3, .int .i64 u.mir, .complex .f32 u.gr.1 u.gr.2, .float .f32 u.loss, .slice B3 u.bs.length d3, .int .i64 u.tk, .slice L3 u.log.length q3] 34); replace ct := ct.alloc (Obj.cells #[.int .i64 u.sz, .float .f32 u.st, .float .f32 u.li.1, .float .f32 u.li.2.1, .float .f32 u.li.2.2, .slice S3 u.sh.length k3, .int .i64 u.mir, .complex .f32 u.gr.1 u.gr.2, .float .f32 u.loss, .slice B3 u.bs.length d3, .int .i64 u.tk, .slice L3 u.log.length q3] 34); replace ft := ft.alloc lt (Obj.cells #[.int .i64 u.sz, .float .f32 u.st, .float .f32 u.li.1, .float .f32 u.li.2.1, .float .f32 u.li.2.2, .slice S3 u.sh.length k3, .int .i64 u.mir, .complex .f32 u.gr.1 u.gr.2, .float .f32 u.loss, .slice B3 u.bs.length d3, .int .i64 u.tk, .slice L3 u.log.length q3] 34); replace hW := hW.alloc (hW.size) (Obj.cells #[.int .i64 u.sz, .float .f32 u.st, .float .f32 u.li.1, .float .f32 u.li.2.1, .float .f32 u.li.2.2, .slice S3 u.sh.length k3, .int .i64 u.mir, .complex .f32 u.gr.1 u.gr.2, .float .f32 u.loss, .slice B3 u.bs.length d3, .int .i64 u.tk, .slice L3 u.log.length q3] 34); replace own := own.alloc (own.size) (Obj.cells #[.int .i64 u.sz, .float .f32 u.st, .float .f32 u.li.1, .float .f32 u.li.2.1, .float .f32 u.li.2.2, .slice S3 u.sh.length k3, .int .i64 u.mir, .complex .f32 u.gr.1 u.gr.2, .float .f32 u.loss, .slice B3 u.bs.length d3, .int .i64 u.tk, .slice L3 u.log.length q3] 34); replace own2 := own2.alloc (own2.size) (Obj.cells #[.int .i64 u.sz, .float .f32 u.st, .float .f32 u.li.1, .float .f32 u.li.2.1, .float .f32 u.li.2.2, .slice S3 u.sh.length k3, .int .i64 u.mir, .complex .f32 u.gr.1 u.gr.2, .float .f32 u.loss, .slice B3 u.bs.length d3, .int .i64 u.tk, .slice L3 u.log.length q3] 34); replace own3 := own3.alloc (own3.size) (Obj.cells #[.int .i64 u.sz, .float .f32 u.st, .float .f32 u.li.1, .float .f32 u.li.2.1, .float .f32 u.li.2.2, .slice S3 u.sh.length k3, .int .i64 u.mir, .complex .f32 u.gr.1 u.gr.2, .float .f32 u.loss, .slice B3 u.bs.length d3, .int .i64 u.tk, .slice L3 u.log.length q3] 34); obtain ⟨V5, hV5e⟩ : ∃ V5, V5 = w4.alloc (Obj.cells #[.int .i64 u.sz, .float .f32 u.st, .float .f32 u.li.1, .float .f32 u.li.2.1, .float .f32 u.li.2.2, .slice S3 u.sh.length k3, .int .i64 u.mir, .complex .f32 u.gr.1 u.gr.2, .float .f32 u.loss, .slice B3 u.bs.length d3, .int .i64 u.tk, .slice L3 u.log.length q3] 34) := ⟨_, rfl⟩; have zV5 : V5.heap.size = w4.heap.size + 1 := (by rw [hV5e]; simp); rw [← hV5e] at cr fr ca fa ct ft hW own own2 own3; rw [← hV5e]; clear hV5e; have lr := cr.lt; replace la := ca.lt; replace lt := ct.lt
    clear zV5
    go_cut [59] (fun v wx => v = .bool false ∧ Below V5.heap.size V5 wx)
    case first =>
      have t0 := ct 0 _ rfl; have t1 := ct 1 _ rfl; have t2 := ct 2 _ rfl; have t3 := ct 3 _ rfl; have t4 := ct 4 _ rfl; have t5 := ct 5 _ rfl; have t6 := ct 6 _ rfl; have t7 := ct 7 _ rfl; have t8 := ct 8 _ rfl; have t9 := ct 9 _ rfl; have t10 := ct 10 _ rfl; have t11 := ct 11 _ rfl
      have r0 := cr 0 _ rfl; have r1 := cr 1 _ rfl; have r2 := cr 2 _ rfl; have r3 := cr 3 _ rfl; have r4 := cr 4 _ rfl; have r5 := cr 5 _ rfl; have r6 := cr 6 _ rfl; have r7 := cr 7 _ rfl; have r8 := cr 8 _ rfl; have r9 := cr 9 _ rfl; have r10 := cr 10 _ rfl; have r11 := cr 11 _ rfl
      have R2 := Lib.hid own2.rd
      have R3 := Lib.hid own3.rd
      go_wp2_with fail
      (with_reducible refine (KMu.out _ _ _ _ _ _ _ R3.out R2.out).mono ?_)
      rintro x w6 ⟨rfl, hb6⟩
      clear t0 t1 t2 t3 t4 t5 t6 t7 t8 t9 t10 t11 r0 r1 r2 r3 r4 r5 r6 r7 r8 r9 r10 r11 R2 R3
      cases ok
      · obtain rfl := HUS.out rfl
        replace own := own.below hb6
        replace own2 := own2.below hb6
        replace ca := ca.keep hb6; replace fa := fa.keep hb6 la; replace la := ca.lt; replace ct := ct.keep hb6; replace ft := ft.keep hb6 lt; replace lt := ct.lt; replace hW := then_ hW hb6
        have a0 := ca 0 _ rfl; have a1 := ca 1 _ rfl; have a2 := ca 2 _ rfl; have a3 := ca 3 _ rfl; have a4 := ca 4 _ rfl; have a5 := ca 5 _ rfl; have a6 := ca 6 _ rfl; have a7 := ca 7 _ rfl; have a8 := ca 8 _ rfl; have a9 := ca 9 _ rfl; have a10 := ca 10 _ rfl; have a11 := ca 11 _ rfl
        have t0 := ct 0 _ rfl; have t1 := ct 1 _ rfl; have t2 := ct 2 _ rfl; have t3 := ct 3 _ rfl; have t4 := ct 4 _ rfl; have t5 := ct 5 _ rfl; have t6 := ct 6 _ rfl; have t7 := ct 7 _ rfl; have t8 := ct 8 _ rfl; have t9 := ct 9 _ rfl; have t10 := ct 10 _ rfl; have t11 := ct 11 _ rfl
        have R := Lib.hid own.rd
        have R2 := Lib.hid own2.rd
        go_wp2_with fail
        (with_reducible refine (KM.out _ _ _ _ _ _ _ _ _ _ _ _ _ R2.out R.out).mono ?_)
        rintro x w7 ⟨rfl, hb7⟩
        have hb67 := then_ hb6 hb7
        go_wp2_with fail
        go_meet
        exact ⟨rfl, hb67⟩
      · go_wp2_with fail
        go_meet
        exact ⟨rfl, hb6⟩
    case rest =>
      obtain ⟨rfl, hwc⟩ := hcut
      replace own2 := own2.below hwc
      replace ct := ct.keep hwc; replace ft := ft.keep hwc lt; replace lt := ct.lt; replace hW := then_ hW hwc
      clear hwc ca fa la cr fr lr own own3 KM KMu HUS
      obtain ⟨X, hX⟩ : ∃ X, X = wc := ⟨_, rfl⟩
      rw [← hX] at own2 ct ft lt hW
      rw [← hX]
      clear hX
      have hg := HU.out.good
      have hk := HU.out.ok
      obtain ⟨N, hN, hN64, hNq⟩ := seen_size HU.out
      obtain ⟨xs, hxs⟩ : ∃ xs, xs = takeUp u.mir u.sz u.st (glassUp u.sh u.bs u.sh.length) u.li N := ⟨_, rfl⟩
      obtain ⟨LX, OKs, SPX, SPL, SPS, HS, MI, hcol⟩ := seen_all HU.out hNq hxs
      have K1 := Lib.hid (fun w h => seenIn_any u S2 B2 L2 k2 d2 q2 N w hg hk hN h)
      rw [← hxs] at K1
      have K2 := Lib.hid (fun A c w h => spreadPicture_any u.mir u.sz A N c xs w hN64 h)
      simp only [SPX, OKs] at K2
      obtain ⟨ys, hys⟩ : ∃ ys, ys = spreadUp u.mir u.sz xs xs.length := ⟨_, rfl⟩
      rw [← hys] at K2 SPS SPL
      have RU := Lib.hid OKs
      have hsl : ys.length ≤ maxLen := by rw [SPL]; exact hN64
      obtain ⟨M, hM⟩ : ∃ M, M = ys.length := ⟨_, rfl⟩
      have K3 := Lib.hid (fun A B c d w h1 h2 => samePicture_any A B u.sz u.sz N M c d xs ys w hN64 (by rw [hM]; exact hsl) h1 h2)
      rw [SPS] at K3
      rw [← hM] at K2
      have KK1 := K1
      have KK2 := K2
      have HLX := Lib.hid LX
      have HMM := Lib.hid hM
      have WED := Lib.hid hg.wed
      have HMIR := Lib.hid hg.mir
      clear K1 K2 hN hN64 hNq hxs hys SPX SPL SPS HS MI hcol hsl hM LX OKs RU hg hk
      have t0 := ct 0 _ rfl; have t1 := ct 1 _ rfl; have t2 := ct 2 _ rfl; have t3 := ct 3 _ rfl; have t4 := ct 4 _ rfl; have t5 := ct 5 _ rfl; have t6 := ct 6 _ rfl; have t7 := ct 7 _ rfl; have t8 := ct 8 _ rfl; have t9 := ct 9 _ rfl; have t10 := ct 10 _ rfl; have t11 := ct 11 _ rfl
      have R := Lib.hid own2.rd
      go_wp2_with fail
      (with_reducible refine (KK1.out _ R.out).mono ?_)
      rintro x w6 ⟨⟨A5, c5, rfl, o5⟩, hb5⟩
      have rP := Rd.of_own colC_len HLX.out o5
      clear t0 t1 t2 t3 t4 t5 t6 t7 t8 t9 t10 t11 R KK1 o5
      replace own2 := own2.below hb5
      replace ct := ct.keep hb5; replace ft := ft.keep hb5 lt; replace lt := ct.lt; replace hW := then_ hW hb5
      clear hb5
      go_upto_region 9 with fail
      have cp := CA.new w6 #[.int .i64 u.sz, .slice A5 N c5] 47; have fp := FA.new w6 #[.int .i64 u.sz, .slice A5 N c5] 47; replace ct := ct.alloc (Obj.cells #[.int .i64 u.sz, .slice A5 N c5] 47); replace ft := ft.alloc lt (Obj.cells #[.int .i64 u.sz, .slice A5 N c5] 47); replace hW := hW.alloc (hW.size) (Obj.cells #[.int .i64 u.sz, .slice A5 N c5] 47); replace own2 := own2.alloc (own2.size) (Obj.cells #[.int .i64 u.sz, .slice A5 N c5] 47); replace rP := rP.alloc (rP.size) (Obj.cells #[.int .i64 u.sz, .slice A5 N c5] 47); obtain ⟨Z5, hZ5e⟩ : ∃ Z5, Z5 = w6.alloc (Obj.cells #[.int .i64 u.sz, .slice A5 N c5] 47) := ⟨_, rfl⟩; have zZ5 : Z5.heap.size = w6.heap.size + 1 := (by rw [hZ5e]; simp); rw [← hZ5e] at cp fp ct ft hW own2 rP; rw [← hZ5e]; clear hZ5e; have lp := cp.lt; replace lt := ct.lt
      clear zZ5
      have t0 := ct 0 _ rfl; have t1 := ct 1 _ rfl; have t2 := ct 2 _ rfl; have t3 := ct 3 _ rfl; have t4 := ct 4 _ rfl; have t5 := ct 5 _ rfl; have t6 := ct 6 _ rfl; have t7 := ct 7 _ rfl; have t8 := ct 8 _ rfl; have t9 := ct 9 _ rfl; have t10 := ct 10 _ rfl; have t11 := ct 11 _ rfl
      have p0 := cp 0 _ rfl; have p1 := cp 1 _ rfl
      have RP := Lib.hid rP
      go_wp2_with fail
      (with_reducible refine (KK2.out _ _ _ RP.out).mono ?_)
      rintro x w7 ⟨B6, d6, rfl, o6, hb5⟩
      have rQ := Rd.of_own colC_len HMM.out.symm o6
      clear t0 t1 t2 t3 t4 t5 t6 t7 t8 t9 t10 t11 p0 p1 RP KK2 o6
      replace own2 := own2.below hb5
      replace rP := rP.step hb5
      replace ct := ct.keep hb5; replace ft := ft.keep hb5 lt; replace lt := ct.lt; replace cp := cp.keep hb5; replace fp := fp.keep hb5 lp; replace lp := cp.lt; replace hW := then_ hW hb5
      clear hb5
      go_upto_region 10 with fail
      have cv := CA.new w7 #[.int .i64 u.sz, .slice B6 M d6] 47; have fv := FA.new w7 #[.int .i64 u.sz, .slice B6 M d6] 47; replace ct := ct.alloc (Obj.cells #[.int .i64 u.sz, .slice B6 M d6] 47); replace ft := ft.alloc lt (Obj.cells #[.int .i64 u.sz, .slice B6 M d6] 47); replace cp := cp.alloc (Obj.cells #[.int .i64 u.sz, .slice B6 M d6] 47); replace fp := fp.alloc lp (Obj.cells #[.int .i64 u.sz, .slice B6 M d6] 47); replace hW := hW.alloc (hW.size) (Obj.cells #[.int .i64 u.sz, .slice B6 M d6] 47); replace own2 := own2.alloc (own2.size) (Obj.cells #[.int .i64 u.sz, .slice B6 M d6] 47); replace rP := rP.alloc (rP.size) (Obj.cells #[.int .i64 u.sz, .slice B6 M d6] 47); replace rQ := rQ.alloc (rQ.size) (Obj.cells #[.int .i64 u.sz, .slice B6 M d6] 47); obtain ⟨Z6, hZ6e⟩ : ∃ Z6, Z6 = w7.alloc (Obj.cells #[.int .i64 u.sz, .slice B6 M d6] 47) := ⟨_, rfl⟩; have zZ6 : Z6.heap.size = w7.heap.size + 1 := (by rw [hZ6e]; simp); rw [← hZ6e] at cv fv ct ft cp fp hW own2 rP rQ; rw [← hZ6e]; clear hZ6e; have lv := cv.lt; replace lt := ct.lt; replace lp := cp.lt
      clear zZ6
      have p0 := cp 0 _ rfl; have p1 := cp 1 _ rfl
      have v0 := cv 0 _ rfl; have v1 := cv 1 _ rfl
      have RP := Lib.hid rP
      have RQ := Lib.hid rQ
      go_wp2_with fail
      (with_reducible refine (K3.out _ _ _ _ _ RP.out RQ.out).mono ?_)
      rintro x w8 ⟨rfl, hb5⟩
      clear p0 p1 v0 v1 RP RQ K3 rP rQ cp fp lp cv fv lv
      replace own2 := own2.below hb5
      replace ct := ct.keep hb5; replace ft := ft.keep hb5 lt; replace lt := ct.lt; replace hW := then_ hW hb5
      clear hb5
      have rB := own2.rd.rb
      obtain ⟨nb, hnb⟩ : ∃ nb, nb = u.bs.length := ⟨_, rfl⟩
      have hnb8 : nb ≤ 8 := by rw [hnb]; exact (okS_parts.1 HU.out.ok).1
      rw [← hnb] at rB ct
      have RB := Lib.hid rB
      have CT := Lib.hid ct
      have HW8 := Lib.hid hW
      clear rB ct ft hW own2 hnb HU
      go_wp2_with fail
      go_loopw [13] (fun i wr => ∃ k : Nat, k ≤ nb ∧ i = .int .i64 k ∧ Below w8.heap.size w8 wr) (fun i _ => nb - (intOf i).toNat)
      case atStart => exact ⟨0, Nat.zero_le _, rfl, Below.refl _ _⟩
      case round =>
        obtain ⟨k, hk, rfl, hBr⟩ := hrel
        have ct := CT.out.keep hBr
        have lt := ct.lt
        by_cases hlt : k < nb
        · obtain ⟨bb, off, z, v, hBe, hbl, hx, x0, x1⟩ := (RB.out.step hBr).bd hlt
          have hwd := WED.out _ (List.mem_of_getElem? hx)
          dsimp only at hwd
          have KW := Lib.hid (fun w => inWedge_any u.mir z w)
          rw [hwd] at KW
          have hki : (k : Int) < (nb : Int) := by omega
          have hk0 : (0 : Int) ≤ (k : Int) := by omega
          subst hBe
          have t0 := ct 0 _ rfl; have t1 := ct 1 _ rfl; have t2 := ct 2 _ rfl; have t3 := ct 3 _ rfl; have t4 := ct 4 _ rfl; have t5 := ct 5 _ rfl; have t6 := ct 6 _ rfl; have t7 := ct 7 _ rfl; have t8 := ct 8 _ rfl; have t9 := ct 9 _ rfl; have t10 := ct 10 _ rfl; have t11 := ct 11 _ rfl
          clear hx hwd
          go_wp2_with fail
          go_region_held3 (fun w' => (∀ b o, b < wr.heap.size → w'.cell? ⟨b, o, none⟩ = wr.cell? ⟨b, o, none⟩) ∧ Below wr.heap.size wr w') (first | assumption | exact startS _ | exact stepS (by assumption) (by assumption)) (first | (go_at_call 14; (with_reducible refine (KW.out _).mono ?_); rintro x w' ⟨rfl, rfl⟩))
          go_wp2
          go_roundw
          case rel => exact ⟨k + 1, by omega, by go_num, by (repeat (first | with_reducible assumption | exact Below.refl _ _ | (refine Below.setCell ?_ (by first | exact Nat.le_refl _ | (simp; done) | omega | (simp; omega)) _) | (refine below_drewN ?_ _) | (refine Below.drew ?_) | (refine Below.alloc ?_ (by first | exact Nat.le_refl _ | (simp; done) | omega | (simp; omega)) _) | (refine then_ ?_ (by with_reducible assumption)) | assumption | (refine then_ ?_ (by assumption))))⟩
          case measure => simp [intOf]; omega
        · obtain rfl : k = nb := by omega
          have t0 := ct 0 _ rfl; have t1 := ct 1 _ rfl; have t2 := ct 2 _ rfl; have t3 := ct 3 _ rfl; have t4 := ct 4 _ rfl; have t5 := ct 5 _ rfl; have t6 := ct 6 _ rfl; have t7 := ct 7 _ rfl; have t8 := ct 8 _ rfl; have t9 := ct 9 _ rfl; have t10 := ct 10 _ rfl; have t11 := ct 11 _ rfl
          have hWr := then_ HW8.out hBr
          go_wp2_with fail
          clear t0 t1 t2 t3 t4 t5 t6 t7 t8 t9 t10 t11 ct CT RB HW8 WED HMIR
          (with_reducible refine (drawPlace_any A m c bs _ hm (HRB.out.step hWr) HBS.out).mono ?_)
          rintro x w9 ⟨K, p, hK4, hsp, rfl, hb9⟩
          have hp := (okW_32 hsp.1 hsp.2).2
          have hKi : inB (K : Int) 0 3 = true := by unfold inB; simp; omega
          have KF := Lib.hid (fun w => foldPoint_any (K : Int) p w)
          have KO := Lib.hid (fun w => orbitOf_q K p w hK4 hp)
          have IMG := Lib.hid (fun z h => inS_word (z := z) hKi hp h)
          have hW9 := then_ hWr hb9
          obtain ⟨fp, hfp⟩ : ∃ fp, fp = foldP (K : Int) p := ⟨_, rfl⟩
          rw [← hfp] at KF IMG
          obtain ⟨⟨wx, wy⟩, ⟨ft, ff⟩, fok⟩ := fp
          simp only [foldV] at KF
          clear hfp hsp hKi hb9 hWr
          go_wp2_with fail
          (with_reducible refine (KF.out _).mono ?_)
          rintro x w10 ⟨rfl, hb10⟩
          have hW10 := then_ hW9 hb10
          clear hb10 hW9 KF
          go_wp2_with fail
          obtain ⟨Y, hY⟩ : ∃ Y, Y = w10.alloc (Obj.cells #[.int .i64 ft, .bool ff] 58) := ⟨_, rfl⟩
          have hWY : Below w.heap.size w Y := by rw [hY]; exact hW10.alloc hW10.size _
          rw [← hY]
          clear hY hW10
          (with_reducible refine (KO.out _).mono ?_)
          rintro x w11 ⟨A7, c7, n7, hn8, rfl, ⟨zs, hlq, ho⟩, hb11⟩
          have RZ := Lib.hid (Rd.of_own cxC_len hlq.1 ho)
          have LQZ := Lib.hid hlq
          have hW11 := then_ hWY hb11
          clear hlq ho hb11 hWY KO
          go_wp2_with fail
          go_loopw [20] (fun i wr => ∃ j : Nat, j ≤ n7 ∧ i = .int .i64 j ∧ Below w11.heap.size w11 wr) (fun i _ => n7 - (intOf i).toNat)
          case atStart => exact ⟨0, Nat.zero_le _, rfl, Below.refl _ _⟩
          case round =>
            obtain ⟨j, hj, rfl, hBj⟩ := hrel
            by_cases hlj : j < n7
            · obtain ⟨b2, o2, z, hAe, hb2, hx, x0⟩ := (RZ.out.step hBj).cq hlj
              obtain ⟨hz, hfo, hcx⟩ := IMG.out z (LQZ.out.2 z (List.mem_of_getElem? hx))
              have KF := fun w => foldPoint_any (K : Int) z w
              obtain ⟨fz, hfz⟩ : ∃ fz, fz = foldP (K : Int) z := ⟨_, rfl⟩
              rw [← hfz] at KF hfo hcx
              obtain ⟨⟨ax, ay⟩, ⟨gt, gf⟩, gok⟩ := fz
              dsimp only at hfo hcx
              subst hfo
              simp only [foldV] at KF
              have KF := Lib.hid KF
              unfold cxE at hcx
              rw [Bool.and_eq_true] at hcx
              obtain ⟨e1, e2⟩ := hcx
              have e1' : (FloatKind.f32.format.order ax wx == some .eq) = true := e1
              have e2' : (FloatKind.f32.format.order ay wy == some .eq) = true := e2
              have hji : (j : Int) < (n7 : Int) := by omega
              have hj0 : (0 : Int) ≤ (j : Int) := by omega
              subst hAe
              clear hx hfz hz e1 e2
              go_wp2_with fail
              (with_reducible refine (KF.out _).mono ?_)
              rintro x w12 ⟨rfl, hb12⟩
              have hB12 := then_ hBj hb12
              clear hb12 x0
              go_wp2
              go_roundw
              case rel => exact ⟨j + 1, by omega, by go_num, hB12.alloc hB12.size _⟩
              case measure => simp [intOf]; omega
            · obtain rfl : j = n7 := by omega
              have hWe := then_ hW11 hBj
              go_wp2
              go_ret
              exact ⟨rfl, hWe⟩

namespace fnTop
theorem own : ownKnob Tryz.prog.godebug = none := by kernel_rfl
theorem laidOut : laidOutB Tryz.prog = true := by kernel_rfl
set_option maxRecDepth 100000 in
theorem lifted (os : Os) (started : os.Started) (H : Type) (enc : TypeId × Value → H) :
    ReturnsInHanded {} Tryz.checked os 3 .any (Rows.fnTopSpec.pre6 enc Tryz.prog Tryz.f3 Rows.fnTopRow.domain false) (Rows.fnTopSpec.post enc Tryz.prog Tryz.f3 false true false false) := by
  refine returnsInHanded_of_change (C := Tryz.checked) own started (by kernel_rfl) Tryz.func3
    (ChangeSpec.witness6 (enc := enc) (C := Tryz.checked) false ⟨#[], #[.slice none 0 0], []⟩ 8 (by kernel_rfl) (by kernel_rfl) (by kernel_rfl) (by kernel_rfl)) ?_
  intro W base args ds gs before hval0 hW hcnd _
  have hval : ∀ (j : Nat) t v, Tryz.f3.params[j]? = some t → args[j]? = some v → Value.okWide Tryz.prog W .any base t v := hval0
  have hW' := hW
  obtain ⟨p, q, hA0, hV, rfl, hfz, hnd⟩ := hW
  have hA : DataW.TrodAll enc Tryz.prog W 0 (fun _ => true) true Tryz.f3.params.toList args.toList ds p := hA0
  rw [Tryz.params3] at hA hval
  obtain ⟨v0, vs0, d0, ds0, p0, q0, hargs, rfl, rfl, h0, r0⟩ := trodAll_cons hA
  obtain ⟨rfl, rfl, rfl⟩ := trodAll_nil r0
  obtain rfl : args = #[v0] := by cases args; simp_all
  obtain ⟨rfl, rfl⟩ := trodVars_none hV
  have k0 := h0
  have lt0 : ∀ x ∈ p0, x.block < W.heap.size := by obtain ⟨m, hm⟩ := k0; exact DataW.trod_lt m _ _ _ hm
  obtain ⟨A, n, c, bs, rfl, hn, ha, hbs⟩ := open_bytes Tryz.underlying22 Tryz.underlying5 (by kernel_rfl) (hval 0 22 v0 rfl rfl) h0
  clear hA0 hval0
  refine (lawTop A n c bs W ha hbs).mono fun e W' ⟨he, bel⟩ => ?_
  subst he
  exact ⟨_, rfl, _, _, _, [], _, [], hW', trodAll_mk1 (shut_bool Tryz.underlying4 _), (trodAll_cons_mk (Below.trod laidOut (by kernel_rfl) (of_decide_eq_true (by kernel_rfl)) k0 bel lt0) trodAll_mk0), rfl, bel.frame _, fun h => by cases h⟩

theorem and_mk {a b : Bool} (h : a = true) (k : b = true) : (a && b) = true := by rw [h, k]; rfl
set_option maxHeartbeats 40000000 in
theorem facts : joinedFacts Tryz.pinned.checked.prog 3 Tryz.f3 Rows.fnTopSpec Rows.fnTopRow = true := by
  unfold joinedFacts
  repeat (with_reducible refine and_mk ?_ ?_)
  all_goals (as_aux_lemma => kernel_rfl)
theorem named_ : Tryz.pinned.checked.prog.funcNamed Rows.fnTopRow.func = some 3 := by kernel_rfl
theorem over : Rows.fnTopRow.holds Tryz.pinned (OpenSpec.ofChange Rows.fnTopSpec) :=
  OpenClaim.holds_of_wide 3 Tryz.f3 rfl rfl rfl rfl rfl rfl rfl ⟨rfl, rfl, rfl, rfl, rfl⟩ rfl rfl rfl rfl rfl named_ Tryz.func3 facts
    (of_decide_eq_true (by kernel_rfl)) (by unfold Func.isWrapper; first | (rw [if_pos (by decide +kernel)]; kernel_rfl) | (rw [if_neg (by decide +kernel)]; exact ⟨rfl, rfl⟩))
    (fun os started H enc _ => lifted os started H enc)

theorem proved : Rows.FnTopSaid := over
end fnTop
end Go.Proofs.YthlphmojldbpkaaGreat
