
/- FnReplayed: a show is replayed from its log to the last bit, cut anywhere. -/
import Derived.Test.YtoafldgngbaddaaDrawShow
import Derived.Test.YtoafldgngbaddaaDoI
import Derived.Test.YtoafldgngbaddaaM27
import Derived.Test.YtoafldgngbaddaaM32
import Derived.Test.YtoafldgngbaddaaM21
import Derived.Test.YtoafldgngbaddaaM30
import Derived.ProofKit
import Derived.ChangeOld
import Derived.Deep.RegionHeld3
import Derived.Deep.RegionLaw
import Derived.Below
import Derived.Laws.Cover3
namespace Go.Proofs.Ytoafldgngbaddaa
open Go.ChangeShapes Go.WideShapes Go.ChangeAt Go.RowKit
attribute [local go_sem] run_store_float run_store_complex

theorem rd_take {α : Type} {enc : α → List Value} {sz : Nat} {w : World} {B : Nat} {A : Option Addr} {m n : Nat} {xs : List α} (h : Rd enc sz w B A m xs) (hn : n ≤ m) : Rd enc sz w B A n (xs.take n) :=
  ⟨by rw [List.length_take, h.1]; omega, fun h0 => by
    obtain ⟨b, off, e, hb, hc⟩ := h.2 (by omega)
    refine ⟨b, off, e, hb, fun k x hx j u hu => hc k x ?_ j u hu⟩
    rw [List.getElem?_take] at hx
    split at hx
    · exact hx
    · cases hx⟩
theorem rd_drop {α : Type} {enc : α → List Value} {sz : Nat} {w : World} {B b o : Nat} {m n : Nat} {xs : List α} (h : Rd enc sz w B (some ⟨b, o, none⟩) m xs) (hn : n ≤ m) : Rd enc sz w B (some ⟨b, o + n * sz, none⟩) (m - n) (xs.drop n) :=
  ⟨by rw [List.length_drop, h.1], fun h0 => by
    obtain ⟨b', off, e, hb, hc⟩ := h.2 (by omega)
    injection e with e
    injection e with e1 e2
    subst e1 e2
    refine ⟨b, o + n * sz, rfl, hb, fun k x hx j u hu => ?_⟩
    rw [List.getElem?_drop] at hx
    have := hc (n + k) x hx j u hu
    rw [show o + (n + k) * sz + j = o + n * sz + k * sz + j by rw [Nat.add_mul]; omega] at this
    exact this⟩
theorem log_at {w : World} {base : Nat} {s : Shw} {A B L : Option Addr} {c d q : Nat} (h : OwnS w base s A B L c d q) :
    (L = none ∧ q = 0 ∧ s.log.length = 0) ∨ (∃ b, L = some ⟨b, 0, none⟩ ∧ q = 0 ∧ s.log.length = 0) ∨ (∃ b, L = some ⟨b, 0, none⟩ ∧ 0 < q ∧ q ≤ maxLen ∧ s.log.length ≤ q) := by
  rcases h.2.2.1.2 with ⟨h1, h0⟩ | ⟨g, cap, _, h1, _, _, h2, h3, _⟩
  · injection h1 with e1 _ e2
    exact .inl ⟨e1, e2, h0⟩
  · injection h1 with e1 _ e2
    subst e2
    by_cases hq : q = 0
    · exact .inr (.inl ⟨g, e1, hq, by omega⟩)
    · exact .inr (.inr ⟨g, e1, by omega, h3, h2⟩)

set_option maxRecDepth 100000 in
set_option maxHeartbeats 16000000 in
theorem lawReplayed (A : Option Addr) (m c : Nat) (bs : List Int) (w : World) (hr : Rd byteC 1 w w.heap.size A m bs) (hb : ∀ x ∈ bs, 0 ≤ x ∧ x ≤ 255) :
    Calls Try.prog 5 #[.slice A m c] w fun e w' => e = .returned (.bool true) ∧ Below w.heap.size w w' := by
  by_cases hbig : (4096 : Int) < m
  · have hd : decide ((4096 : Int) < m) = true := by simp [hbig]
    go_enter Try.func5, Try.ntmps5
    go_wp2_with (go_at_call 12; refine (bigT_any _ _ _ _).mono ?_; rintro e w' ⟨rfl, rfl⟩; simp only [hd])
    go_ret
    exact ⟨rfl, by (repeat (first | with_reducible assumption | exact Below.refl _ _ | (refine Below.setCell ?_ (by first | exact Nat.le_refl _ | (simp; done) | omega | (simp; omega)) _) | (refine below_drewN ?_ _) | (refine Below.drew ?_) | (refine Below.alloc ?_ (by first | exact Nat.le_refl _ | (simp; done) | omega | (simp; omega)) _) | (refine then_ ?_ (by with_reducible assumption)) | assumption | (refine then_ ?_ (by assumption))))⟩
  · have hd : decide ((4096 : Int) < m) = false := by simp [hbig]
    have hm : m ≤ 4096 := by omega
    go_enter Try.func5, Try.ntmps5
    go_wp2_with (go_at_call 12; refine (bigT_any _ _ _ _).mono ?_; rintro e w' ⟨rfl, rfl⟩; simp only [hd])
    refine (drawShow_any A m c bs _ hm hr hb).mono ?_
    rintro r w1 ⟨s, e, S, B, L, k, d, q, HD, he, rfl, own, hW⟩
    have hg := HD.good
    have hk := HD.ok
    obtain ⟨p1, p2, p3, p4⟩ := okS_parts.1 hk
    have hl := hg.len
    have l1 : s.sh.length ≤ 8 := by omega
    have KP := Lib.hid (fun w h => replayShow_any s S B L k d q w HD h)
    have KM := Lib.hid (fun S1 B1 L1 k1 d1 q1 S2 B2 L2 k2 d2 q2 w h1 h2 => sameShow_self s S1 B1 L1 S2 B2 L2 k1 d1 q1 k2 d2 q2 w hg hk h1 h2)
    have KN := fun w => newShow_any 0 s.sz s.st 0 0 0 w
    simp only [madeV, newOk_good hg, if_true, newV] at KN
    have KN' := Lib.hid KN
    clear KN
    have ND : Good (newS s.sz s.st) ∧ okS (newS s.sz s.st) = true := ⟨new_good hg.sz hg.st, rfl⟩
    obtain ⟨nl, hnl⟩ : ∃ nl, nl = s.log.length := ⟨_, rfl⟩
    obtain ⟨n, hn⟩ : ∃ n, n = nl / 2 := ⟨_, rfl⟩
    have hnn : n ≤ s.log.length := by omega
    obtain ⟨half, hhalf⟩ := runK_prefix HD.run hnn
    obtain ⟨hgh, hkh⟩ := runK_good ND.1 ND.2 (good_evs hg) hhalf
    have hrest : runK half (s.log.drop n) (s.log.length - n) = some s := by
      rw [runK_drop hhalf, show n + (s.log.length - n) = s.log.length by omega]
      exact HD.run
    have htake : runK (newS s.sz s.st) (s.log.take n) n = some half := by rw [runK_take]; exact hhalf
    have ge1 : (s.log.take n).all evG = true := List.all_eq_true.2 fun x hx => List.all_eq_true.1 (good_evs hg) x (List.mem_of_mem_take hx)
    have ge2 : (s.log.drop n).all evG = true := List.all_eq_true.2 fun x hx => List.all_eq_true.1 (good_evs hg) x (List.mem_of_mem_drop hx)
    have KR1 := Lib.hid (fun H nc w h => (show Calls Try.prog 18 #[.agg #[.int .i64 s.sz, .float .f32 s.st, .float .f32 0, .float .f32 0, .float .f32 0, .slice none 0 0, .int .i64 0, .complex .f32 0 0, .float .f32 0, .slice none 0 0, .int .i64 0, .slice none 0 0], .slice H n nc] w fun r w' => (∃ A B L c d q, r = .returned (.tuple #[.agg #[.int .i64 half.sz, .float .f32 half.st, .float .f32 half.li.1, .float .f32 half.li.2.1, .float .f32 half.li.2.2, .slice A half.sh.length c, .int .i64 half.mir, .complex .f32 half.gr.1 half.gr.2, .float .f32 half.loss, .slice B half.bs.length d, .int .i64 half.tk, .slice L half.log.length q], .int .i64 (n : Int)]) ∧ OwnS w' w.heap.size half A B L c d q) ∧ Below w.heap.size w w' from runShow_all (newS s.sz s.st) half (s.log.take n) none none none H 0 0 0 n nc w ND.1 ND.2 ge1 (by omega) (rdS_new _ _ _) h htake))
    have KR2 := Lib.hid (fun A1 B1 L1 c1 d1 q1 H nc w hr h => runShow_all half s (s.log.drop n) A1 B1 L1 H c1 d1 q1 (s.log.length - n) nc w hgh hkh ge2 (by omega) hr h hrest)
    have R0 := log_at own
    rw [← hnl] at R0 KP KM KR2 p4 ⊢
    have HL := Lib.hid hnl
    have hdiv : (nl : Int) / 2 = (n : Int) := by omega
    have hnb : n ≤ nl := by omega
    have hsub : IntKind.i64.wrap ((nl : Int) - (n : Int)) = ((nl - n : Nat) : Int) := by rw [IntKind.wrap_i64]; omega
    have hn0 : (0 : Int) ≤ (n : Int) := by omega
    have hwl : IntKind.i64.wrap (nl : Int) = (nl : Int) := by rw [IntKind.wrap_i64]; omega
    have hnl' : (n : Int) ≤ (nl : Int) := by omega
    have HN := Lib.hid hn
    clear hr hb hd hbig HD he hg hk p1 p2 p3 hl l1 ND hhalf hgh hkh hrest htake ge1 ge2 hn hnl hnn
    go_upto_region 4 with fail
    have ca := CA.new w1 #[.int .i64 s.sz, .float .f32 s.st, .float .f32 s.li.1, .float .f32 s.li.2.1, .float .f32 s.li.2.2, .slice S s.sh.length k, .int .i64 s.mir, .complex .f32 s.gr.1 s.gr.2, .float .f32 s.loss, .slice B s.bs.length d, .int .i64 s.tk, .slice L nl q] 33; have fa := FA.new w1 #[.int .i64 s.sz, .float .f32 s.st, .float .f32 s.li.1, .float .f32 s.li.2.1, .float .f32 s.li.2.2, .slice S s.sh.length k, .int .i64 s.mir, .complex .f32 s.gr.1 s.gr.2, .float .f32 s.loss, .slice B s.bs.length d, .int .i64 s.tk, .slice L nl q] 33; replace hW := hW.alloc (hW.size) (Obj.cells #[.int .i64 s.sz, .float .f32 s.st, .float .f32 s.li.1, .float .f32 s.li.2.1, .float .f32 s.li.2.2, .slice S s.sh.length k, .int .i64 s.mir, .complex .f32 s.gr.1 s.gr.2, .float .f32 s.loss, .slice B s.bs.length d, .int .i64 s.tk, .slice L nl q] 33); replace own := own.alloc (own.size) (Obj.cells #[.int .i64 s.sz, .float .f32 s.st, .float .f32 s.li.1, .float .f32 s.li.2.1, .float .f32 s.li.2.2, .slice S s.sh.length k, .int .i64 s.mir, .complex .f32 s.gr.1 s.gr.2, .float .f32 s.loss, .slice B s.bs.length d, .int .i64 s.tk, .slice L nl q] 33); obtain ⟨V1, hV1e⟩ : ∃ V1, V1 = w1.alloc (Obj.cells #[.int .i64 s.sz, .float .f32 s.st, .float .f32 s.li.1, .float .f32 s.li.2.1, .float .f32 s.li.2.2, .slice S s.sh.length k, .int .i64 s.mir, .complex .f32 s.gr.1 s.gr.2, .float .f32 s.loss, .slice B s.bs.length d, .int .i64 s.tk, .slice L nl q] 33) := ⟨_, rfl⟩; have zV1 : V1.heap.size = w1.heap.size + 1 := (by rw [hV1e]; simp); rw [← hV1e] at ca fa hW own; rw [← hV1e]; clear hV1e; have la := ca.lt
    have cb := CA.new V1 #[.int .i64 e.k, .int .i64 e.n, .complex .f32 e.z.1 e.z.2, .complex .f32 e.s.1.1 e.s.1.2, .complex .f32 e.s.2.1.1 e.s.2.1.2, .complex .f32 e.s.2.2.1.1 e.s.2.2.1.2, .float .f32 e.s.2.2.2.1.1, .float .f32 e.s.2.2.2.1.2.1, .float .f32 e.s.2.2.2.1.2.2, .float .f32 e.s.2.2.2.2, .float .f32 e.c.1, .float .f32 e.c.2.1, .float .f32 e.c.2.2] 45; have fb := FA.new V1 #[.int .i64 e.k, .int .i64 e.n, .complex .f32 e.z.1 e.z.2, .complex .f32 e.s.1.1 e.s.1.2, .complex .f32 e.s.2.1.1 e.s.2.1.2, .complex .f32 e.s.2.2.1.1 e.s.2.2.1.2, .float .f32 e.s.2.2.2.1.1, .float .f32 e.s.2.2.2.1.2.1, .float .f32 e.s.2.2.2.1.2.2, .float .f32 e.s.2.2.2.2, .float .f32 e.c.1, .float .f32 e.c.2.1, .float .f32 e.c.2.2] 45; replace ca := ca.alloc (Obj.cells #[.int .i64 e.k, .int .i64 e.n, .complex .f32 e.z.1 e.z.2, .complex .f32 e.s.1.1 e.s.1.2, .complex .f32 e.s.2.1.1 e.s.2.1.2, .complex .f32 e.s.2.2.1.1 e.s.2.2.1.2, .float .f32 e.s.2.2.2.1.1, .float .f32 e.s.2.2.2.1.2.1, .float .f32 e.s.2.2.2.1.2.2, .float .f32 e.s.2.2.2.2, .float .f32 e.c.1, .float .f32 e.c.2.1, .float .f32 e.c.2.2] 45); replace fa := fa.alloc la (Obj.cells #[.int .i64 e.k, .int .i64 e.n, .complex .f32 e.z.1 e.z.2, .complex .f32 e.s.1.1 e.s.1.2, .complex .f32 e.s.2.1.1 e.s.2.1.2, .complex .f32 e.s.2.2.1.1 e.s.2.2.1.2, .float .f32 e.s.2.2.2.1.1, .float .f32 e.s.2.2.2.1.2.1, .float .f32 e.s.2.2.2.1.2.2, .float .f32 e.s.2.2.2.2, .float .f32 e.c.1, .float .f32 e.c.2.1, .float .f32 e.c.2.2] 45); replace hW := hW.alloc (hW.size) (Obj.cells #[.int .i64 e.k, .int .i64 e.n, .complex .f32 e.z.1 e.z.2, .complex .f32 e.s.1.1 e.s.1.2, .complex .f32 e.s.2.1.1 e.s.2.1.2, .complex .f32 e.s.2.2.1.1 e.s.2.2.1.2, .float .f32 e.s.2.2.2.1.1, .float .f32 e.s.2.2.2.1.2.1, .float .f32 e.s.2.2.2.1.2.2, .float .f32 e.s.2.2.2.2, .float .f32 e.c.1, .float .f32 e.c.2.1, .float .f32 e.c.2.2] 45); replace own := own.alloc (own.size) (Obj.cells #[.int .i64 e.k, .int .i64 e.n, .complex .f32 e.z.1 e.z.2, .complex .f32 e.s.1.1 e.s.1.2, .complex .f32 e.s.2.1.1 e.s.2.1.2, .complex .f32 e.s.2.2.1.1 e.s.2.2.1.2, .float .f32 e.s.2.2.2.1.1, .float .f32 e.s.2.2.2.1.2.1, .float .f32 e.s.2.2.2.1.2.2, .float .f32 e.s.2.2.2.2, .float .f32 e.c.1, .float .f32 e.c.2.1, .float .f32 e.c.2.2] 45); obtain ⟨V, hVe⟩ : ∃ V, V = V1.alloc (Obj.cells #[.int .i64 e.k, .int .i64 e.n, .complex .f32 e.z.1 e.z.2, .complex .f32 e.s.1.1 e.s.1.2, .complex .f32 e.s.2.1.1 e.s.2.1.2, .complex .f32 e.s.2.2.1.1 e.s.2.2.1.2, .float .f32 e.s.2.2.2.1.1, .float .f32 e.s.2.2.2.1.2.1, .float .f32 e.s.2.2.2.1.2.2, .float .f32 e.s.2.2.2.2, .float .f32 e.c.1, .float .f32 e.c.2.1, .float .f32 e.c.2.2] 45) := ⟨_, rfl⟩; have zV : V.heap.size = V1.heap.size + 1 := (by rw [hVe]; simp); rw [← hVe] at cb fb ca fa hW own; rw [← hVe]; clear hVe; have lb := cb.lt; replace la := ca.lt
    rw [zV1] at cb fb lb zV
    clear zV1 cb fb lb
    have a0 := ca 0 _ rfl; have a1 := ca 1 _ rfl; have a2 := ca 2 _ rfl; have a3 := ca 3 _ rfl; have a4 := ca 4 _ rfl; have a5 := ca 5 _ rfl; have a6 := ca 6 _ rfl; have a7 := ca 7 _ rfl; have a8 := ca 8 _ rfl; have a9 := ca 9 _ rfl; have a10 := ca 10 _ rfl; have a11 := ca 11 _ rfl
    have R := Lib.hid own.rd
    go_wp2_with fail
    (with_reducible refine (KP.out _ R.out).mono ?_)
    rintro r w2 ⟨⟨S2, B2, L2, k2, d2, q2, rfl, own2⟩, hb2⟩
    clear a0 a1 a2 a3 a4 a5 a6 a7 a8 a9 a10 a11 R KP
    replace own := own.below hb2
    replace ca := ca.keep hb2; replace fa := fa.keep hb2 la; replace la := ca.lt; replace hW := then_ hW hb2
    clear hb2
    go_upto_region 5 with fail
    have cc := CA.new w2 #[.int .i64 s.sz, .float .f32 s.st, .float .f32 s.li.1, .float .f32 s.li.2.1, .float .f32 s.li.2.2, .slice S2 s.sh.length k2, .int .i64 s.mir, .complex .f32 s.gr.1 s.gr.2, .float .f32 s.loss, .slice B2 s.bs.length d2, .int .i64 s.tk, .slice L2 nl q2] 33; have fc := FA.new w2 #[.int .i64 s.sz, .float .f32 s.st, .float .f32 s.li.1, .float .f32 s.li.2.1, .float .f32 s.li.2.2, .slice S2 s.sh.length k2, .int .i64 s.mir, .complex .f32 s.gr.1 s.gr.2, .float .f32 s.loss, .slice B2 s.bs.length d2, .int .i64 s.tk, .slice L2 nl q2] 33; replace ca := ca.alloc (Obj.cells #[.int .i64 s.sz, .float .f32 s.st, .float .f32 s.li.1, .float .f32 s.li.2.1, .float .f32 s.li.2.2, .slice S2 s.sh.length k2, .int .i64 s.mir, .complex .f32 s.gr.1 s.gr.2, .float .f32 s.loss, .slice B2 s.bs.length d2, .int .i64 s.tk, .slice L2 nl q2] 33); replace fa := fa.alloc la (Obj.cells #[.int .i64 s.sz, .float .f32 s.st, .float .f32 s.li.1, .float .f32 s.li.2.1, .float .f32 s.li.2.2, .slice S2 s.sh.length k2, .int .i64 s.mir, .complex .f32 s.gr.1 s.gr.2, .float .f32 s.loss, .slice B2 s.bs.length d2, .int .i64 s.tk, .slice L2 nl q2] 33); replace hW := hW.alloc (hW.size) (Obj.cells #[.int .i64 s.sz, .float .f32 s.st, .float .f32 s.li.1, .float .f32 s.li.2.1, .float .f32 s.li.2.2, .slice S2 s.sh.length k2, .int .i64 s.mir, .complex .f32 s.gr.1 s.gr.2, .float .f32 s.loss, .slice B2 s.bs.length d2, .int .i64 s.tk, .slice L2 nl q2] 33); replace own := own.alloc (own.size) (Obj.cells #[.int .i64 s.sz, .float .f32 s.st, .float .f32 s.li.1, .float .f32 s.li.2.1, .float .f32 s.li.2.2, .slice S2 s.sh.length k2, .int .i64 s.mir, .complex .f32 s.gr.1 s.gr.2, .float .f32 s.loss, .slice B2 s.bs.length d2, .int .i64 s.tk, .slice L2 nl q2] 33); replace own2 := own2.alloc (own2.size) (Obj.cells #[.int .i64 s.sz, .float .f32 s.st, .float .f32 s.li.1, .float .f32 s.li.2.1, .float .f32 s.li.2.2, .slice S2 s.sh.length k2, .int .i64 s.mir, .complex .f32 s.gr.1 s.gr.2, .float .f32 s.loss, .slice B2 s.bs.length d2, .int .i64 s.tk, .slice L2 nl q2] 33); obtain ⟨V3, hV3e⟩ : ∃ V3, V3 = w2.alloc (Obj.cells #[.int .i64 s.sz, .float .f32 s.st, .float .f32 s.li.1, .float .f32 s.li.2.1, .float .f32 s.li.2.2, .slice S2 s.sh.length k2, .int .i64 s.mir, .complex .f32 s.gr.1 s.gr.2, .float .f32 s.loss, .slice B2 s.bs.length d2, .int .i64 s.tk, .slice L2 nl q2] 33) := ⟨_, rfl⟩; have zV3 : V3.heap.size = w2.heap.size + 1 := (by rw [hV3e]; simp); rw [← hV3e] at cc fc ca fa hW own own2; rw [← hV3e]; clear hV3e; have lc := cc.lt; replace la := ca.lt
    have a0 := ca 0 _ rfl; have a1 := ca 1 _ rfl; have a2 := ca 2 _ rfl; have a3 := ca 3 _ rfl; have a4 := ca 4 _ rfl; have a5 := ca 5 _ rfl; have a6 := ca 6 _ rfl; have a7 := ca 7 _ rfl; have a8 := ca 8 _ rfl; have a9 := ca 9 _ rfl; have a10 := ca 10 _ rfl; have a11 := ca 11 _ rfl
    have c0 := cc 0 _ rfl; have c1 := cc 1 _ rfl; have c2 := cc 2 _ rfl; have c3 := cc 3 _ rfl; have c4 := cc 4 _ rfl; have c5 := cc 5 _ rfl; have c6 := cc 6 _ rfl; have c7 := cc 7 _ rfl; have c8 := cc 8 _ rfl; have c9 := cc 9 _ rfl; have c10 := cc 10 _ rfl; have c11 := cc 11 _ rfl
    have R := Lib.hid own.rd
    have R2 := Lib.hid own2.rd
    go_wp2_with fail
    (with_reducible refine (KM.out _ _ _ _ _ _ _ _ _ _ _ _ _ R.out R2.out).mono ?_)
    rintro r w4 ⟨rfl, hb2⟩
    clear a0 a1 a2 a3 a4 a5 a6 a7 a8 a9 a10 a11 c0 c1 c2 c3 c4 c5 c6 c7 c8 c9 c10 c11 R R2 cc fc lc own2
    replace own := own.below hb2
    replace ca := ca.keep hb2; replace fa := fa.keep hb2 la; replace la := ca.lt; replace hW := then_ hW hb2
    clear hb2
    have a0 := ca 0 _ rfl; have a1 := ca 1 _ rfl; have a2 := ca 2 _ rfl; have a3 := ca 3 _ rfl; have a4 := ca 4 _ rfl; have a5 := ca 5 _ rfl; have a6 := ca 6 _ rfl; have a7 := ca 7 _ rfl; have a8 := ca 8 _ rfl; have a9 := ca 9 _ rfl; have a10 := ca 10 _ rfl; have a11 := ca 11 _ rfl
    go_wp2_with fail
    (with_reducible refine (KN'.out _).mono ?_)
    rintro r w5 ⟨rfl, hb2⟩
    clear a0 a1 a2 a3 a4 a5 a6 a7 a8 a9 a10 a11
    replace own := own.below hb2
    replace ca := ca.keep hb2; replace fa := fa.keep hb2 la; replace la := ca.lt; replace hW := then_ hW hb2
    clear hb2 KN'
    go_upto_region 9 with fail
    have cx := CA.new w5 #[.int .i64 s.sz, .float .f32 s.st, .float .f32 0, .float .f32 0, .float .f32 0, .slice none 0 0, .int .i64 0, .complex .f32 0 0, .float .f32 0, .slice none 0 0, .int .i64 0, .slice none 0 0] 33; have fx := FA.new w5 #[.int .i64 s.sz, .float .f32 s.st, .float .f32 0, .float .f32 0, .float .f32 0, .slice none 0 0, .int .i64 0, .complex .f32 0 0, .float .f32 0, .slice none 0 0, .int .i64 0, .slice none 0 0] 33; replace ca := ca.alloc (Obj.cells #[.int .i64 s.sz, .float .f32 s.st, .float .f32 0, .float .f32 0, .float .f32 0, .slice none 0 0, .int .i64 0, .complex .f32 0 0, .float .f32 0, .slice none 0 0, .int .i64 0, .slice none 0 0] 33); replace fa := fa.alloc la (Obj.cells #[.int .i64 s.sz, .float .f32 s.st, .float .f32 0, .float .f32 0, .float .f32 0, .slice none 0 0, .int .i64 0, .complex .f32 0 0, .float .f32 0, .slice none 0 0, .int .i64 0, .slice none 0 0] 33); replace hW := hW.alloc (hW.size) (Obj.cells #[.int .i64 s.sz, .float .f32 s.st, .float .f32 0, .float .f32 0, .float .f32 0, .slice none 0 0, .int .i64 0, .complex .f32 0 0, .float .f32 0, .slice none 0 0, .int .i64 0, .slice none 0 0] 33); replace own := own.alloc (own.size) (Obj.cells #[.int .i64 s.sz, .float .f32 s.st, .float .f32 0, .float .f32 0, .float .f32 0, .slice none 0 0, .int .i64 0, .complex .f32 0 0, .float .f32 0, .slice none 0 0, .int .i64 0, .slice none 0 0] 33); obtain ⟨X, hXe⟩ : ∃ X, X = w5.alloc (Obj.cells #[.int .i64 s.sz, .float .f32 s.st, .float .f32 0, .float .f32 0, .float .f32 0, .slice none 0 0, .int .i64 0, .complex .f32 0 0, .float .f32 0, .slice none 0 0, .int .i64 0, .slice none 0 0] 33) := ⟨_, rfl⟩; have zX : X.heap.size = w5.heap.size + 1 := (by rw [hXe]; simp); rw [← hXe] at cx fx ca fa hW own; rw [← hXe]; clear hXe; have lx := cx.lt; replace la := ca.lt
    have a0 := ca 0 _ rfl; have a1 := ca 1 _ rfl; have a2 := ca 2 _ rfl; have a3 := ca 3 _ rfl; have a4 := ca 4 _ rfl; have a5 := ca 5 _ rfl; have a6 := ca 6 _ rfl; have a7 := ca 7 _ rfl; have a8 := ca 8 _ rfl; have a9 := ca 9 _ rfl; have a10 := ca 10 _ rfl; have a11 := ca 11 _ rfl
    have x0 := cx 0 _ rfl; have x1 := cx 1 _ rfl; have x2 := cx 2 _ rfl; have x3 := cx 3 _ rfl; have x4 := cx 4 _ rfl; have x5 := cx 5 _ rfl; have x6 := cx 6 _ rfl; have x7 := cx 7 _ rfl; have x8 := cx 8 _ rfl; have x9 := cx 9 _ rfl; have x10 := cx 10 _ rfl; have x11 := cx 11 _ rfl
    have rl := own.rd.rl
    rw [← HL.out] at rl
    have RT0 := rd_take rl hnb
    have FIN : ∃ H1 H2, (H1 = L ∧ (L = none ∧ q = 0 ∧ nl = 0 ∧ H2 = none ∨ (∃ b, L = some ⟨b, 0, none⟩ ∧ q = 0 ∧ nl = 0 ∧ H2 = some ⟨b, 0, none⟩) ∨ (∃ b, L = some ⟨b, 0, none⟩ ∧ 0 < q ∧ q ≤ maxLen ∧ nl ≤ q ∧ H2 = some ⟨b, n * 13, none⟩))) ∧ Rd evC 13 X X.heap.size H1 n (s.log.take n) ∧ Rd evC 13 X X.heap.size H2 (nl - n) (s.log.drop n) := by
      rcases R0 with ⟨rfl, rfl, e0⟩ | ⟨b, rfl, rfl, e0⟩ | ⟨b, rfl, h1, h2, h3⟩
      · refine ⟨none, none, ⟨rfl, .inl ⟨rfl, rfl, e0, rfl⟩⟩, RT0, by rw [List.length_drop, ← HL.out], fun h => absurd h (by omega)⟩
      · refine ⟨_, some ⟨b, 0, none⟩, ⟨rfl, .inr (.inl ⟨b, rfl, rfl, e0, rfl⟩)⟩, RT0, by rw [List.length_drop, ← HL.out], fun h => absurd h (by omega)⟩
      · have := rd_drop rl hnb
        rw [Nat.zero_add] at this
        exact ⟨_, _, ⟨rfl, .inr (.inr ⟨b, rfl, h1, h2, h3, rfl⟩)⟩, RT0, this⟩
    obtain ⟨H1, H2, ⟨e1, hc⟩, RT, RD⟩ := FIN
    subst e1
    have RT := Lib.hid RT
    have RD := Lib.hid RD
    clear rl RT0 R0 zX zV zV3
    obtain ⟨N', hN'⟩ : ∃ N' : Int, N' = (n : Int) := ⟨_, rfl⟩
    obtain ⟨M', hM'⟩ : ∃ M' : Int, M' = ((nl - n : Nat) : Int) := ⟨_, rfl⟩
    have HM := Lib.hid hM'
    have HN' := Lib.hid hN'
    clear hM' hN'
    rcases hc with ⟨e1, e2, e3, e4⟩ | ⟨b, e1, e2, e3, e4⟩ | ⟨b, e1, hq, hqm, hnq, e4⟩
    case' inl =>
      obtain rfl : n = 0 := by omega
      clear e3
      subst e1 e2 e4
      simp only [Nat.sub_zero] at KR2 RD
    case' inr.inl =>
      obtain rfl : n = 0 := by omega
      clear e3
      subst e1 e2 e4
      simp only [Nat.sub_zero] at KR2 RD
    case' inr.inr =>
      subst e1 e4
      have q0 : ¬ q = 0 := by omega
      have qn : ¬ q = n := by have := HN.out; omega
      have nq : (n : Int) ≤ (q : Int) := by omega
    all_goals
      go_cut [10, 11] (fun v6 v7 wx => ∃ (g b5 : Nat) (A7 B7 L7 : Option Addr) (c7 d7 q7 : Nat), v6 = .pointer (some ⟨g, 0, none⟩) ∧ v7 = .int .i64 N' ∧ X.heap.size ≤ b5 ∧ CA wx g (shwL half A7 B7 L7 half.sh.length c7 half.bs.length d7 half.log.length q7) ∧ OwnS wx b5 half A7 B7 L7 c7 d7 q7 ∧ Below X.heap.size X wx)
      case first =>
        go_region_held3 (fun w' => (∀ b o, b < X.heap.size → w'.cell? ⟨b, o, none⟩ = X.cell? ⟨b, o, none⟩) ∧ Below X.heap.size X w') (first | with_reducible assumption | with_reducible exact startS _ | with_reducible exact startSM _ _ | with_reducible exact stepS (by assumption) (by assumption) | with_reducible exact ofBel (by (repeat (first | with_reducible assumption | with_reducible exact Below.refl _ _ | with_reducible refine Below.setCell ?_ (by first | exact Nat.le_refl _ | (dsimp only; omega)) _ | with_reducible refine Below.alloc ?_ (by first | exact Nat.le_refl _ | omega) _ | with_reducible refine Below.drew ?_ | with_reducible refine below_drewN ?_ _)))) (first | (go_at_call 18; (with_reducible refine (KR1.out _ _ _ (RT.out.step ?_)).mono ?_); (repeat (first | with_reducible assumption | exact Below.refl _ _ | (refine Below.setCell ?_ (by first | exact Nat.le_refl _ | (simp; done) | omega | (simp; omega)) _) | (refine below_drewN ?_ _) | (refine Below.drew ?_) | (refine Below.alloc ?_ (by first | exact Nat.le_refl _ | (simp; done) | omega | (simp; omega)) _) | (refine then_ ?_ (by with_reducible assumption)) | assumption | (refine then_ ?_ (by assumption)))); rintro r w6 ⟨⟨A6, B6, L6, c6, d6, q6, rfl, own6⟩, hb6⟩; have hB6 : Below X.heap.size X w6 := (by (repeat (first | with_reducible assumption | exact Below.refl _ _ | (refine Below.setCell ?_ (by first | exact Nat.le_refl _ | (simp; done) | omega | (simp; omega)) _) | (refine below_drewN ?_ _) | (refine Below.drew ?_) | (refine Below.alloc ?_ (by first | exact Nat.le_refl _ | (simp; done) | omega | (simp; omega)) _) | (refine then_ ?_ (by with_reducible assumption)) | assumption | (refine then_ ?_ (by assumption))))); have z6 := hB6.size; (first | (obtain ⟨b5, own6, hx6, hs6, cg, fg⟩ := clone_first own6 hb6; have k0 := cg 0 _ rfl; have k1 := cg 1 _ rfl; have k2 := cg 2 _ rfl; have k3 := cg 3 _ rfl; have k4 := cg 4 _ rfl; have k5 := cg 5 _ rfl; have k6 := cg 6 _ rfl; have k7 := cg 7 _ rfl; have k8 := cg 8 _ rfl; have k9 := cg 9 _ rfl; have k10 := cg 10 _ rfl; have k11 := cg 11 _ rfl; have j0 := fg 0; have j1 := fg 1; have j2 := fg 2; have j3 := fg 3; have j4 := fg 4; have j5 := fg 5; have j6 := fg 6; have j7 := fg 7; have j8 := fg 8; have j9 := fg 9; have j10 := fg 10; have j11 := fg 11; have lg := cg.lt) | (obtain ⟨b5, own6, hx6, hs6⟩ := clone_plain own6 hb6)); have OW6 := Lib.hid own6; clear own6))
        all_goals
          go_wp2_with fail
          go_meet
          first
            | (refine ⟨w6.heap.size, b5, A6, B6, L6, c6, d6, q6, rfl, (by first | (rw [HN'.out]; done) | (simp [HN'.out]; done)), (by omega), ?_, ?_, (by (repeat (first | with_reducible assumption | with_reducible exact Below.refl _ _ | with_reducible refine Below.setCell ?_ (by first | exact Nat.le_refl _ | (dsimp only; omega)) _ | with_reducible refine Below.alloc ?_ (by first | exact Nat.le_refl _ | omega) _ | with_reducible refine Below.drew ?_ | with_reducible refine below_drewN ?_ _)))⟩
               · exact CA.new w6 _ _
               · exact OW6.out.below (by with_reducible exact Below.alloc (Below.refl _ _) (Nat.le_refl _) _))
            | (have ho6 := OW6.out.offLt hx6
               refine ⟨X.heap.size, b5, A6, B6, L6, c6, d6, q6, rfl, (by first | (rw [HN'.out]; done) | (simp [HN'.out]; done)), (by omega), ?_, ?_, (by (repeat (first | with_reducible assumption | with_reducible exact Below.refl _ _ | with_reducible refine Below.setCell ?_ (by first | exact Nat.le_refl _ | (dsimp only; omega)) _ | with_reducible refine Below.alloc ?_ (by first | exact Nat.le_refl _ | omega) _ | with_reducible refine Below.drew ?_ | with_reducible refine below_drewN ?_ _)))⟩
               · exact ((((((((((((cg.put 0 _).put 1 _).put 2 _).put 3 _).put 4 _).put 5 _).put 6 _).put 7 _).put 8 _).put 9 _).put 10 _).put 11 _)
               · exact ((((((((((((OW6.out.setO ho6 _ _).setO ho6 _ _).setO ho6 _ _).setO ho6 _ _).setO ho6 _ _).setO ho6 _ _).setO ho6 _ _).setO ho6 _ _).setO ho6 _ _).setO ho6 _ _).setO ho6 _ _).setO ho6 _ _))
      case rest =>
        obtain ⟨g, b5, A7, B7, L7, c7, d7, q7, rfl, rfl, hb5, cg, own7, hwc⟩ := hcut
        obtain rfl := HN'.out
        clear a0 a1 a2 a3 a4 a5 a6 a7 a8 a9 a10 a11 x0 x1 x2 x3 x4 x5 x6 x7 x8 x9 x10 x11 RT KR1 cx fx lx
        replace own := own.below hwc
        replace ca := ca.keep hwc
        replace hW := then_ hW hwc
        have RD := Lib.hid (RD.out.step hwc)
        replace la := ca.lt
        have lg := cg.lt
        obtain ⟨Y, hY⟩ : ∃ Y, Y = wc := ⟨_, rfl⟩
        rw [← hY] at own ca hW RD la lg cg own7
        rw [← hY]
        clear hY hwc hb5
        have R7 := Lib.hid own7.rd
        have OWN := Lib.hid own
        clear own7 own
        have a0 := ca 0 _ rfl; have a1 := ca 1 _ rfl; have a2 := ca 2 _ rfl; have a3 := ca 3 _ rfl; have a4 := ca 4 _ rfl; have a5 := ca 5 _ rfl; have a6 := ca 6 _ rfl; have a7 := ca 7 _ rfl; have a8 := ca 8 _ rfl; have a9 := ca 9 _ rfl; have a10 := ca 10 _ rfl; have a11 := ca 11 _ rfl
        have x0 := cg 0 _ rfl; have x1 := cg 1 _ rfl; have x2 := cg 2 _ rfl; have x3 := cg 3 _ rfl; have x4 := cg 4 _ rfl; have x5 := cg 5 _ rfl; have x6 := cg 6 _ rfl; have x7 := cg 7 _ rfl; have x8 := cg 8 _ rfl; have x9 := cg 9 _ rfl; have x10 := cg 10 _ rfl; have x11 := cg 11 _ rfl
        go_upto_region 10 with fail
        go_cut [12, 13] (fun v6 v7 wx => ∃ (g b5 : Nat) (A7 B7 L7 : Option Addr) (c7 d7 q7 : Nat), v6 = .pointer (some ⟨g, 0, none⟩) ∧ v7 = .int .i64 M' ∧ Y.heap.size ≤ b5 ∧ CA wx g (shwL s A7 B7 L7 s.sh.length c7 s.bs.length d7 nl q7) ∧ OwnS wx b5 s A7 B7 L7 c7 d7 q7 ∧ Below Y.heap.size Y wx)
        case first =>
          go_region_held3 (fun w' => (∀ b o, b < Y.heap.size → w'.cell? ⟨b, o, none⟩ = Y.cell? ⟨b, o, none⟩) ∧ Below Y.heap.size Y w') (first | with_reducible assumption | with_reducible exact startS _ | with_reducible exact startSM _ _ | with_reducible exact stepS (by assumption) (by assumption) | with_reducible exact ofBel (by (repeat (first | with_reducible assumption | with_reducible exact Below.refl _ _ | with_reducible refine Below.setCell ?_ (by first | exact Nat.le_refl _ | (dsimp only; omega)) _ | with_reducible refine Below.alloc ?_ (by first | exact Nat.le_refl _ | omega) _ | with_reducible refine Below.drew ?_ | with_reducible refine below_drewN ?_ _)))) (first | (go_at_call 18; (with_reducible refine (KR2.out _ _ _ _ _ _ _ _ _ (R7.out.step ?_) (RD.out.step ?_)).mono ?_); (repeat (first | with_reducible assumption | exact Below.refl _ _ | (refine Below.setCell ?_ (by first | exact Nat.le_refl _ | (simp; done) | omega | (simp; omega)) _) | (refine below_drewN ?_ _) | (refine Below.drew ?_) | (refine Below.alloc ?_ (by first | exact Nat.le_refl _ | (simp; done) | omega | (simp; omega)) _) | (refine then_ ?_ (by with_reducible assumption)) | assumption | (refine then_ ?_ (by assumption)))); (repeat (first | with_reducible assumption | exact Below.refl _ _ | (refine Below.setCell ?_ (by first | exact Nat.le_refl _ | (simp; done) | omega | (simp; omega)) _) | (refine below_drewN ?_ _) | (refine Below.drew ?_) | (refine Below.alloc ?_ (by first | exact Nat.le_refl _ | (simp; done) | omega | (simp; omega)) _) | (refine then_ ?_ (by with_reducible assumption)) | assumption | (refine then_ ?_ (by assumption)))); rintro r w6 ⟨⟨A6, B6, L6, c6, d6, q6, rfl, own6⟩, hb6⟩; have hB6 : Below Y.heap.size Y w6 := (by (repeat (first | with_reducible assumption | exact Below.refl _ _ | (refine Below.setCell ?_ (by first | exact Nat.le_refl _ | (simp; done) | omega | (simp; omega)) _) | (refine below_drewN ?_ _) | (refine Below.drew ?_) | (refine Below.alloc ?_ (by first | exact Nat.le_refl _ | (simp; done) | omega | (simp; omega)) _) | (refine then_ ?_ (by with_reducible assumption)) | assumption | (refine then_ ?_ (by assumption))))); have z6 := hB6.size; (first | (obtain ⟨b5, own6, hx6, hs6, cg, fg⟩ := clone_first own6 hb6; have k0 := cg 0 _ rfl; have k1 := cg 1 _ rfl; have k2 := cg 2 _ rfl; have k3 := cg 3 _ rfl; have k4 := cg 4 _ rfl; have k5 := cg 5 _ rfl; have k6 := cg 6 _ rfl; have k7 := cg 7 _ rfl; have k8 := cg 8 _ rfl; have k9 := cg 9 _ rfl; have k10 := cg 10 _ rfl; have k11 := cg 11 _ rfl; have j0 := fg 0; have j1 := fg 1; have j2 := fg 2; have j3 := fg 3; have j4 := fg 4; have j5 := fg 5; have j6 := fg 6; have j7 := fg 7; have j8 := fg 8; have j9 := fg 9; have j10 := fg 10; have j11 := fg 11; have lg := cg.lt) | (obtain ⟨b5, own6, hx6, hs6⟩ := clone_plain own6 hb6)); have OW6 := Lib.hid own6; clear own6))
          all_goals
            go_wp2_with fail
            go_meet
            first
              | (refine ⟨w6.heap.size, b5, A6, B6, L6, c6, d6, q6, rfl, (by first | (rw [HM.out]; done) | (simp [HM.out]; done)), (by omega), ?_, ?_, (by (repeat (first | with_reducible assumption | with_reducible exact Below.refl _ _ | with_reducible refine Below.setCell ?_ (by first | exact Nat.le_refl _ | (dsimp only; omega)) _ | with_reducible refine Below.alloc ?_ (by first | exact Nat.le_refl _ | omega) _ | with_reducible refine Below.drew ?_ | with_reducible refine below_drewN ?_ _)))⟩
                 · exact CA.new w6 _ _
                 · exact OW6.out.below (by with_reducible exact Below.alloc (Below.refl _ _) (Nat.le_refl _) _))
              | (have ho6 := OW6.out.offLt hx6
                 refine ⟨Y.heap.size, b5, A6, B6, L6, c6, d6, q6, rfl, (by first | (rw [HM.out]; done) | (simp [HM.out]; done)), (by omega), ?_, ?_, (by (repeat (first | with_reducible assumption | with_reducible exact Below.refl _ _ | with_reducible refine Below.setCell ?_ (by first | exact Nat.le_refl _ | (dsimp only; omega)) _ | with_reducible refine Below.alloc ?_ (by first | exact Nat.le_refl _ | omega) _ | with_reducible refine Below.drew ?_ | with_reducible refine below_drewN ?_ _)))⟩
                 · exact ((((((((((((cg.put 0 _).put 1 _).put 2 _).put 3 _).put 4 _).put 5 _).put 6 _).put 7 _).put 8 _).put 9 _).put 10 _).put 11 _)
                 · exact ((((((((((((OW6.out.setO ho6 _ _).setO ho6 _ _).setO ho6 _ _).setO ho6 _ _).setO ho6 _ _).setO ho6 _ _).setO ho6 _ _).setO ho6 _ _).setO ho6 _ _).setO ho6 _ _).setO ho6 _ _).setO ho6 _ _))
        case rest =>
          obtain ⟨g2, b2, A8, B8, L8, c8, d8, q8, rfl, rfl, hb8, cg2, own8, hwc⟩ := hcut
          obtain rfl := HM.out
          clear a0 a1 a2 a3 a4 a5 a6 a7 a8 a9 a10 a11 x0 x1 x2 x3 x4 x5 x6 x7 x8 x9 x10 x11 RD KR2 R7
          have own := OWN.out.below hwc
          replace ca := ca.keep hwc
          replace hW := then_ hW hwc
          have R := Lib.hid own.rd
          have R8 := Lib.hid own8.rd
          clear own own8 OWN hwc lg cg
          have a0 := ca 0 _ rfl; have a1 := ca 1 _ rfl; have a2 := ca 2 _ rfl; have a3 := ca 3 _ rfl; have a4 := ca 4 _ rfl; have a5 := ca 5 _ rfl; have a6 := ca 6 _ rfl; have a7 := ca 7 _ rfl; have a8 := ca 8 _ rfl; have a9 := ca 9 _ rfl; have a10 := ca 10 _ rfl; have a11 := ca 11 _ rfl
          have x0 := cg2 0 _ rfl; have x1 := cg2 1 _ rfl; have x2 := cg2 2 _ rfl; have x3 := cg2 3 _ rfl; have x4 := cg2 4 _ rfl; have x5 := cg2 5 _ rfl; have x6 := cg2 6 _ rfl; have x7 := cg2 7 _ rfl; have x8 := cg2 8 _ rfl; have x9 := cg2 9 _ rfl; have x10 := cg2 10 _ rfl; have x11 := cg2 11 _ rfl
          go_wp2_with fail
          (with_reducible refine (KM.out _ _ _ _ _ _ _ _ _ _ _ _ _ R8.out R.out).mono ?_)
          rintro r w9 ⟨rfl, hb9⟩
          go_wp2
          go_ret
          exact ⟨rfl, then_ hW hb9⟩

namespace fnReplayed
theorem own : ownKnob Try.prog.godebug = none := by kernel_rfl
theorem laidOut : laidOutB Try.prog = true := by kernel_rfl
set_option maxRecDepth 100000 in
theorem lifted (os : Os) (started : os.Started) (H : Type) (enc : TypeId × Value → H) :
    ReturnsInHanded {} Try.checked os 5 .any (Rows.fnReplayedSpec.pre6 enc Try.prog Try.f5 Rows.fnReplayedRow.domain false) (Rows.fnReplayedSpec.post enc Try.prog Try.f5 false true false false) := by
  refine returnsInHanded_of_change (C := Try.checked) own started (by kernel_rfl) Try.func5
    (ChangeSpec.witness6 (enc := enc) (C := Try.checked) false ⟨#[], #[.slice none 0 0], []⟩ 8 (by kernel_rfl) (by kernel_rfl) (by kernel_rfl) (by kernel_rfl)) ?_
  intro W base args ds gs before hval0 hW hcnd _
  have hval : ∀ (j : Nat) t v, Try.f5.params[j]? = some t → args[j]? = some v → Value.okWide Try.prog W .any base t v := hval0
  have hW' := hW
  obtain ⟨p, q, hA0, hV, rfl, hfz, hnd⟩ := hW
  have hA : DataW.TrodAll enc Try.prog W 0 (fun _ => true) true Try.f5.params.toList args.toList ds p := hA0
  rw [Try.params5] at hA hval
  obtain ⟨v0, vs0, d0, ds0, p0, q0, hargs, rfl, rfl, h0, r0⟩ := trodAll_cons hA
  obtain ⟨rfl, rfl, rfl⟩ := trodAll_nil r0
  obtain rfl : args = #[v0] := by cases args; simp_all
  obtain ⟨rfl, rfl⟩ := trodVars_none hV
  have k0 := h0
  have lt0 : ∀ x ∈ p0, x.block < W.heap.size := by obtain ⟨m, hm⟩ := k0; exact DataW.trod_lt m _ _ _ hm
  obtain ⟨A, n, c, bs, rfl, hn, ha, hbs⟩ := open_bytes Try.underlying40 Try.underlying5 (by kernel_rfl) (hval 0 40 v0 rfl rfl) h0
  clear hA0 hval0
  refine (lawReplayed A n c bs W ha hbs).mono fun e W' ⟨he, bel⟩ => ?_
  subst he
  exact ⟨_, rfl, _, _, _, [], _, [], hW', trodAll_mk1 (shut_bool Try.underlying4 _), (trodAll_cons_mk (Below.trod laidOut (by kernel_rfl) (of_decide_eq_true (by kernel_rfl)) k0 bel lt0) trodAll_mk0), rfl, bel.frame _, fun h => by cases h⟩

theorem and_mk {a b : Bool} (h : a = true) (k : b = true) : (a && b) = true := by rw [h, k]; rfl
set_option maxHeartbeats 40000000 in
theorem facts : joinedFacts Try.pinned.checked.prog 5 Try.f5 Rows.fnReplayedSpec Rows.fnReplayedRow = true := by
  unfold joinedFacts
  repeat (with_reducible refine and_mk ?_ ?_)
  all_goals (as_aux_lemma => kernel_rfl)
theorem named_ : Try.pinned.checked.prog.funcNamed Rows.fnReplayedRow.func = some 5 := by kernel_rfl
theorem over : Rows.fnReplayedRow.holds Try.pinned (OpenSpec.ofChange Rows.fnReplayedSpec) :=
  OpenClaim.holds_of_wide 5 Try.f5 rfl rfl rfl rfl rfl rfl rfl ⟨rfl, rfl, rfl, rfl, rfl⟩ rfl rfl rfl rfl rfl named_ Try.func5 facts
    (of_decide_eq_true (by kernel_rfl)) (by unfold Func.isWrapper; first | (rw [if_pos (by decide +kernel)]; kernel_rfl) | (rw [if_neg (by decide +kernel)]; exact ⟨rfl, rfl⟩))
    (fun os started H enc _ => lifted os started H enc)

theorem proved : Rows.FnReplayedSaid := over
end fnReplayed
end Go.Proofs.Ytoafldgngbaddaa
