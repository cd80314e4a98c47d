/- ShowI · ShowJ · SDoA -/
import Derived.Test.YthlphmojldbpkaaGreatEvI
import Derived.Test.YthlphmojldbpkaaGreatM16
import Derived.Test.YthlphmojldbpkaaGreatM1
import Derived.Test.YthlphmojldbpkaaGreatM3
import Derived.Deep.RegionHeld3
import Derived.Deep.RegionLaw
import Derived.Deep.QuietTactic
import Derived.BigQuiet

/- The search for an event that is none; IsShow: the program's. -/
namespace Go.Proofs.YthlphmojldbpkaaGreat
open Go.RowKit
attribute [local go_sem] run_store_float run_store_complex

theorem Rd.ev {w : World} {B : Nat} {A : Option Addr} {n k : Nat} {xs : List Ev} (h : Rd evC 13 w B A n xs) (hk : k < n) :
    ∃ b off e, A = some ⟨b, off, none⟩ ∧ b < B ∧ xs[k]? = some e ∧ w.cell? ⟨b, off + k * 13, none⟩ = some (.int .i64 e.k) ∧ w.cell? ⟨b, off + k * 13 + 1, none⟩ = some (.int .i64 e.n) ∧ w.cell? ⟨b, off + k * 13 + 2, none⟩ = some (.complex .f32 e.z.1 e.z.2) ∧ w.cell? ⟨b, off + k * 13 + 3, none⟩ = some (.complex .f32 e.s.1.1 e.s.1.2) ∧ w.cell? ⟨b, off + k * 13 + 4, none⟩ = some (.complex .f32 e.s.2.1.1 e.s.2.1.2) ∧ w.cell? ⟨b, off + k * 13 + 5, none⟩ = some (.complex .f32 e.s.2.2.1.1 e.s.2.2.1.2) ∧ w.cell? ⟨b, off + k * 13 + 6, none⟩ = some (.float .f32 e.s.2.2.2.1.1) ∧ w.cell? ⟨b, off + k * 13 + 7, none⟩ = some (.float .f32 e.s.2.2.2.1.2.1) ∧ w.cell? ⟨b, off + k * 13 + 8, none⟩ = some (.float .f32 e.s.2.2.2.1.2.2) ∧ w.cell? ⟨b, off + k * 13 + 9, none⟩ = some (.float .f32 e.s.2.2.2.2) ∧ w.cell? ⟨b, off + k * 13 + 10, none⟩ = some (.float .f32 e.c.1) ∧ w.cell? ⟨b, off + k * 13 + 11, none⟩ = some (.float .f32 e.c.2.1) ∧ w.cell? ⟨b, off + k * 13 + 12, none⟩ = some (.float .f32 e.c.2.2) := by
  obtain ⟨b, off, e, ea, hb, hx, hc⟩ := h.at_ hk
  exact ⟨b, off, e, ea, hb, hx, hc 0 _ rfl, hc 1 _ rfl, hc 2 _ rfl, hc 3 _ rfl, hc 4 _ rfl, hc 5 _ rfl, hc 6 _ rfl, hc 7 _ rfl, hc 8 _ rfl, hc 9 _ rfl, hc 10 _ rfl, hc 11 _ rfl, hc 12 _ rfl⟩

set_option maxHeartbeats 2000000 in
theorem eventF_yes (e : Ev) (w : World) (h : evB e = true) :
    Calls Tryz.prog 74 #[.agg #[.int .i64 e.k, .int .i64 e.n, .complex .f32 e.z.1 e.z.2, .complex .f32 e.s.1.1 e.s.1.2, .complex .f32 e.s.2.1.1 e.s.2.1.2, .complex .f32 e.s.2.2.1.1 e.s.2.2.1.2, .float .f32 e.s.2.2.2.1.1, .float .f32 e.s.2.2.2.1.2.1, .float .f32 e.s.2.2.2.1.2.2, .float .f32 e.s.2.2.2.2, .float .f32 e.c.1, .float .f32 e.c.2.1, .float .f32 e.c.2.2]] w fun x w' => x = .returned (.bool false) ∧ Below w.heap.size w w' := by
  unfold evB at h
  rw [Bool.and_eq_true] at h
  have K := Lib.hid (fun w => isEvent_any e w h.1)
  have R := h.2
  go_enter Tryz.func74, Tryz.ntmps74
  go_wp2_with (go_at_call 31; (with_reducible refine (K.out _).mono ?_); rw [R]; rintro x w1 ⟨rfl, hb1⟩)
  go_ret
  exact ⟨rfl, by (repeat (first | with_reducible assumption | exact Below.refl _ _ | (refine Below.setCell ?_ (by first | exact Nat.le_refl _ | (simp; done) | omega | (simp; omega)) _) | (refine below_drewN ?_ _) | (refine Below.drew ?_) | (refine Below.alloc ?_ (by first | exact Nat.le_refl _ | (simp; done) | omega | (simp; omega)) _) | (refine then_ ?_ (by with_reducible assumption)) | assumption | (refine then_ ?_ (by assumption))))⟩
set_option maxRecDepth 100000 in
set_option maxHeartbeats 4000000 in
theorem indexEvent_yes (H : Option Addr) (p pc : Nat) (ls : List Ev) (w : World) (hp : p ≤ 1048576) (hok : ls.all evB = true) (hs : Rd evC 13 w w.heap.size H p ls) :
    Calls Tryz.prog 108 #[.slice H p pc, .func (.func 74) #[] #[]] w fun e w' => e = .returned (.int .i64 (-1)) ∧ Below w.heap.size w w' := by
  have HOK := Lib.hid hok
  clear hok
  go_enter Tryz.func108, Tryz.ntmps108
  go_wp2
  go_loopw [5, 8] (fun _ i wr => ∃ k : Nat, k ≤ p ∧ i = .int .i64 k ∧ Below w.heap.size w wr) (fun _ i _ => p - (intOf i).toNat)
  case atStart => exact ⟨0, Nat.zero_le _, rfl, Below.refl _ _⟩
  case round =>
    obtain ⟨k, hk, rfl, hw⟩ := hrel
    by_cases hlt : k < p
    · obtain ⟨bb, off, e, rfl, hbl, hx, c0, c1, c2, c3, c4, c5, c6, c7, c8, c9, c10, c11, c12⟩ := (hs.step hw).ev hlt
      have hki : (k : Int) < (p : Int) := by omega
      have hk0 : (0 : Int) ≤ (k : Int) := by omega
      have ho := List.all_eq_true.1 HOK.out _ (List.mem_of_getElem? hx)
      have K := Lib.hid (fun w => eventF_yes e w ho)
      clear hx ho
      go_wp2_with (go_at_call 74; (with_reducible refine (K.out _).mono ?_); rintro e w1 ⟨rfl, hb1⟩)
      go_roundw
      case rel => exact ⟨k + 1, by omega, by go_num, by (repeat (first | with_reducible assumption | exact Below.refl _ _ | (refine Below.setCell ?_ (by first | exact Nat.le_refl _ | (simp; done) | omega | (simp; omega)) _) | (refine below_drewN ?_ _) | (refine Below.drew ?_) | (refine Below.alloc ?_ (by first | exact Nat.le_refl _ | (simp; done) | omega | (simp; omega)) _) | (refine then_ ?_ (by with_reducible assumption)) | assumption | (refine then_ ?_ (by assumption))))⟩
      case measure => simp [intOf]; omega
    · obtain rfl : k = p := by omega
      go_wp2
      go_ret
      exact ⟨rfl, hw⟩
set_option maxHeartbeats 2000000 in
theorem containsEvent_yes (H : Option Addr) (p pc : Nat) (ls : List Ev) (w : World) (hp : p ≤ 1048576) (hok : ls.all evB = true) (hs : Rd evC 13 w w.heap.size H p ls) :
    Calls Tryz.prog 73 #[.slice H p pc, .func (.func 74) #[] #[]] w fun e w' => e = .returned (.bool false) ∧ Below w.heap.size w w' := by
  go_enter Tryz.func73, Tryz.ntmps73
  go_wp2_with (go_at_call 108; refine (indexEvent_yes H p pc ls _ hp hok hs).mono ?_; rintro e w1 ⟨rfl, hb1⟩)
  go_ret
  exact ⟨rfl, hb1⟩
end Go.Proofs.YthlphmojldbpkaaGreat

/- IsShow: the program's, of shows that are good but for bounds. -/
namespace Go.Proofs.YthlphmojldbpkaaGreat
open Go.RowKit
attribute [local go_sem] run_store_float run_store_complex

set_option maxHeartbeats 2000000 in
theorem isTumble_big (mir : Int) (gr : Pt) (loss : Nat) (A : Option Addr) (n c : Nat) (w : World) (h8 : 8 < n) (hn : n ≤ 1000) (h1 : inB mir 0 3 = true) (h2 : pointB gr.1 gr.2 = true) (h3 : partB loss = true) :
    Calls Tryz.prog 72 #[.agg #[.int .i64 mir, .complex .f32 gr.1 gr.2, .float .f32 loss, .slice A n c]] w fun e w' => e = .returned (.bool false) ∧ Below w.heap.size w w' := by
  have hni : (8 : Int) < (n : Int) := by omega
  go_enter Tryz.func72, Tryz.ntmps72
  go_wp2_with (first
    | (go_at_call 39; refine (isKind_any _ _).mono ?_; rintro e w' ⟨rfl, rfl⟩; simp only [h1])
    | (go_at_call 42; refine (isPoint_any _ _ _).mono ?_; rintro e w' ⟨rfl, rfl⟩; simp only [h2])
    | (go_at_call 95; refine (isPart_any _ _).mono ?_; rintro e w' ⟨rfl, rfl⟩; simp only [h3]))
  go_ret
  exact ⟨rfl, by (repeat (first | with_reducible assumption | exact Below.refl _ _ | (refine Below.setCell ?_ (by first | exact Nat.le_refl _ | (simp; done) | omega | (simp; omega)) _) | (refine below_drewN ?_ _) | (refine Below.drew ?_) | (refine Below.alloc ?_ (by first | exact Nat.le_refl _ | (simp; done) | omega | (simp; omega)) _) | (refine then_ ?_ (by with_reducible assumption)) | assumption | (refine then_ ?_ (by assumption))))⟩
theorem isTumble_good (mir : Int) (gr : Pt) (loss : Nat) (A : Option Addr) (n c : Nat) (bs : List Bd) (w : World) (hn : n ≤ 1000) (h1 : inB mir 0 3 = true) (h2 : pointB gr.1 gr.2 = true) (h3 : partB loss = true) (ha : Rd bdC 2 w w.heap.size A n bs) :
    Calls Tryz.prog 72 #[.agg #[.int .i64 mir, .complex .f32 gr.1 gr.2, .float .f32 loss, .slice A n c]] w fun e w' => e = .returned (.bool (tumB mir gr loss bs)) ∧ Below w.heap.size w w' := by
  rcases Nat.lt_or_ge 8 n with h | h
  · have : tumB mir gr loss bs = false := by
      unfold tumB
      have := ha.1
      rw [show decide (bs.length ≤ 8) = false by simp; omega]
      simp
    rw [this]
    exact isTumble_big mir gr loss A n c w h hn h1 h2 h3
  · exact isTumble_any mir gr loss A n c bs w h ha

set_option maxRecDepth 100000 in
set_option maxHeartbeats 8000000 in
theorem isShow_any (s : Shw) (A B L : Option Addr) (n c m d p q : Nat) (w : World) (hg : Good s) (hn : n ≤ 12) (hm : m ≤ 12) (hp : p ≤ 30) (rS : Rd shC 7 w w.heap.size A n s.sh) (rB : Rd bdC 2 w w.heap.size B m s.bs) (rL : Rd evC 13 w w.heap.size L p s.log) :
    Calls Tryz.prog 30 #[.agg #[.int .i64 s.sz, .float .f32 s.st, .float .f32 s.li.1, .float .f32 s.li.2.1, .float .f32 s.li.2.2, .slice A n c, .int .i64 s.mir, .complex .f32 s.gr.1 s.gr.2, .float .f32 s.loss, .slice B m d, .int .i64 s.tk, .slice L p q]] w fun e w' => e = .returned (.bool (okS s)) ∧ Below w.heap.size w w' := by
  have KA := Lib.hid (fun w h => areShards_yes A n c s.sh w hn hg.sh h)
  have KT := Lib.hid (fun w h => isTumble_good s.mir s.gr s.loss B m d s.bs w (by omega) hg.mir hg.gr hg.loss h)
  have KE := Lib.hid (fun w h => containsEvent_yes L p q s.log w (by omega) hg.log h)
  have hl : (m : Int) = (n : Int) := by have := hg.len; have := rS.1; have := rB.1; omega
  have R := okS_eq hg
  have LP := rL.1
  have h1 := hg.sz
  have h2 := hg.st
  have h3 := hg.li
  clear hg
  go_enter Tryz.func30, Tryz.ntmps30
  go_wp2_with fail
  obtain ⟨V, hVe⟩ : ∃ V, V = w.alloc (Obj.cells #[.int .i64 s.sz, .float .f32 s.st, .float .f32 s.li.1, .float .f32 s.li.2.1, .float .f32 s.li.2.2, .slice A n c, .int .i64 s.mir, .complex .f32 s.gr.1 s.gr.2, .float .f32 s.loss, .slice B m d, .int .i64 s.tk, .slice L p q] 34) := ⟨_, rfl⟩
  have ca := CA.new w #[.int .i64 s.sz, .float .f32 s.st, .float .f32 s.li.1, .float .f32 s.li.2.1, .float .f32 s.li.2.2, .slice A n c, .int .i64 s.mir, .complex .f32 s.gr.1 s.gr.2, .float .f32 s.loss, .slice B m d, .int .i64 s.tk, .slice L p q] 34
  rw [← hVe] at ca
  have hV : Below w.heap.size w V := by rw [hVe]; (repeat (first | with_reducible assumption | exact Below.refl _ _ | (refine Below.setCell ?_ (by first | exact Nat.le_refl _ | (simp; done) | omega | (simp; omega)) _) | (refine below_drewN ?_ _) | (refine Below.drew ?_) | (refine Below.alloc ?_ (by first | exact Nat.le_refl _ | (simp; done) | omega | (simp; omega)) _) | (refine then_ ?_ (by with_reducible assumption)) | assumption | (refine then_ ?_ (by assumption))))
  have la := ca.lt
  rw [← hVe]
  clear hVe
  replace rS := rS.step hV
  replace rB := rB.step hV
  replace rL := rL.step hV
  refine (within_any s.sz 1 8 _).mono ?_
  rw [h1]
  rintro e w' ⟨rfl, rfl⟩
  have a1 := ca 1 _ rfl
  have a2 := ca 2 _ rfl
  have a3 := ca 3 _ rfl
  have a4 := ca 4 _ rfl
  go_wp2_with fail
  refine (isStep_any s.st _).mono ?_
  rw [h2]
  rintro e w' ⟨rfl, rfl⟩
  go_wp2_with fail
  refine (isColour_any s.li.1 s.li.2.1 s.li.2.2 _).mono ?_
  rw [show colB (s.li.1, s.li.2.1, s.li.2.2) = true from h3]
  rintro e w1 ⟨rfl, hb⟩
  clear a1 a2 a3 a4
  replace ca := ca.keep hb
  replace rS := rS.step hb
  replace rB := rB.step hb
  replace rL := rL.step hb
  replace hV := then_ hV hb
  replace la := ca.lt
  clear hb
  have a5 := ca 5 _ rfl
  go_wp2_with fail
  (with_reducible refine (KA.out _ rS).mono ?_)
  rintro e w2 ⟨rfl, hb⟩
  clear a5
  replace ca := ca.keep hb
  replace rB := rB.step hb
  replace rL := rL.step hb
  replace hV := then_ hV hb
  replace la := ca.lt
  clear hb rS
  have a6 := ca 6 _ rfl
  have a7 := ca 7 _ rfl
  have a8 := ca 8 _ rfl
  have a9 := ca 9 _ rfl
  go_wp2_with fail
  (with_reducible refine (KT.out _ rB).mono ?_)
  rintro e w3 ⟨rfl, hb⟩
  clear a6 a7 a8 a9
  replace ca := ca.keep hb
  replace rL := rL.step hb
  replace hV := then_ hV hb
  replace la := ca.lt
  clear hb rB
  cases h4 : tumB s.mir s.gr s.loss s.bs
  · rw [h4, Bool.false_and] at R
    go_wp2
    go_ret
    exact ⟨by rw [R]; rfl, hV⟩
  · rw [h4, Bool.true_and] at R
    have a5 := ca 5 _ rfl
    have a9 := ca 9 _ rfl
    have a10 := ca 10 _ rfl
    have a11 := ca 11 _ rfl
    have hne : ((m : Int) != (n : Int)) = false := by rw [hl]; simp
    cases h5 : inB s.tk 0 200
    · rw [h5, Bool.false_and] at R
      go_wp2_with (go_at_call 49; (with_reducible refine (within_any s.tk 0 200 _).mono ?_); rintro e w' ⟨rfl, rfl⟩; simp only [h5])
      go_ret
      exact ⟨by rw [R]; rfl, hV⟩
    · rw [h5, Bool.true_and] at R
      rcases Nat.lt_or_ge 24 p with h | h
      · have hi : (24 : Int) < (p : Int) := by omega
        rw [show decide (s.log.length ≤ 24) = false by simp; omega] at R
        go_wp2_with (go_at_call 49; (with_reducible refine (within_any s.tk 0 200 _).mono ?_); rintro e w' ⟨rfl, rfl⟩; simp only [h5])
        go_ret
        exact ⟨by rw [R]; rfl, hV⟩
      · have hi : ¬ (24 : Int) < (p : Int) := by omega
        rw [show decide (s.log.length ≤ 24) = true by simp; omega] at R
        go_wp2_with (first
          | (go_at_call 49; (with_reducible refine (within_any s.tk 0 200 _).mono ?_); rintro e w' ⟨rfl, rfl⟩; simp only [h5])
          | (go_at_call 73; (with_reducible refine (KE.out _ rL).mono ?_); rintro e w4 ⟨rfl, hb4⟩))
        go_ret
        exact ⟨by rw [R]; rfl, then_ hV hb4⟩
end Go.Proofs.YthlphmojldbpkaaGreat

/- l6Do: the specification's, a shard is put in. -/
namespace Go.Proofs.YthlphmojldbpkaaGreat
open Go.RowKit
attribute [local go_sem] run_store_float run_store_complex



set_option maxRecDepth 100000 in
set_option maxHeartbeats 4000000 in
theorem sDo_add (s : Shw) (e : Ev) (ss : Sh) (zz : Pt) (he : e = .add ss zz) (hg : Good s) (hev : evG e = true) (hm : s.bs.length ≤ 1000) (hs : s.sh.length ≤ 1000) (A B L : Option Addr) (c d q base : Nat) (w : World) (hb : base ≤ w.heap.size) (own : OwnS w base s A B L c d q) :
    Calls Tryz.prog 100 #[.agg #[.int .i64 s.sz, .float .f32 s.st, .float .f32 s.li.1, .float .f32 s.li.2.1, .float .f32 s.li.2.2, .slice A s.sh.length c, .int .i64 s.mir, .complex .f32 s.gr.1 s.gr.2, .float .f32 s.loss, .slice B s.bs.length d, .int .i64 s.tk, .slice L s.log.length q], .agg #[.int .i64 e.k, .int .i64 e.n, .complex .f32 e.z.1 e.z.2, .complex .f32 e.s.1.1 e.s.1.2, .complex .f32 e.s.2.1.1 e.s.2.1.2, .complex .f32 e.s.2.2.1.1 e.s.2.2.1.2, .float .f32 e.s.2.2.2.1.1, .float .f32 e.s.2.2.2.1.2.1, .float .f32 e.s.2.2.2.1.2.2, .float .f32 e.s.2.2.2.2, .float .f32 e.c.1, .float .f32 e.c.2.1, .float .f32 e.c.2.2]] w fun r w' => SHap s e base (OwnB s A B L c d q) w.heap.size r w' ∧ BelF base (OwnB s A B L c d q) w w' := by
  have k1 : (e.k == 1) = true := by rw [he]; rfl
  have ht : hap s e = some { s with sh := s.sh ++ [e.s], bs := s.bs ++ [((foldP s.mir e.z).1, (0, 0))] } := by rw [he]; rfl
  have hff : foldS s.mir e.z = foldP s.mir e.z := by
    rw [he] at hev
    simp only [evG] at hev
    simp only [Bool.and_eq_true] at hev
    obtain ⟨z1, z2⟩ := okW_32 hev.2.1 hev.2.2
    rw [he]
    exact (fold_facts hg.mir z1 z2).1
  have kf := fun w => specFoldPoint_any s.mir e.z w
  rw [hff] at kf
  generalize foldP s.mir e.z = rr at kf ht
  obtain ⟨⟨p1, p2⟩, ⟨gt, gf⟩, ok⟩ := rr
  simp only [foldV] at kf
  have KF := Lib.hid kf
  have HT := Lib.hid ht
  clear he ht kf hff hev hg
  have OWN := Lib.hid own
  clear own
  go_enter Tryz.func100, Tryz.ntmps100
  go_upto_region 1 with fail
  have h := hs_new e hb OWN.out #[.int .i64 s.sz, .float .f32 s.st, .float .f32 s.li.1, .float .f32 s.li.2.1, .float .f32 s.li.2.2, .slice A s.sh.length c, .int .i64 s.mir, .complex .f32 s.gr.1 s.gr.2, .float .f32 s.loss, .slice B s.bs.length d, .int .i64 s.tk, .slice L s.log.length q] #[.int .i64 0, .float .f32 0, .float .f32 0, .float .f32 0, .float .f32 0, .slice none 0 0, .int .i64 0, .complex .f32 0 0, .float .f32 0, .slice none 0 0, .int .i64 0, .slice none 0 0] 34 38 34 rfl rfl #[.int .i64 e.k, .int .i64 e.n, .complex .f32 e.z.1 e.z.2, .complex .f32 e.s.1.1 e.s.1.2, .complex .f32 e.s.2.1.1 e.s.2.1.2, .complex .f32 e.s.2.2.1.1 e.s.2.2.1.2, .float .f32 e.s.2.2.2.1.1, .float .f32 e.s.2.2.2.1.2.1, .float .f32 e.s.2.2.2.1.2.2, .float .f32 e.s.2.2.2.2, .float .f32 e.c.1, .float .f32 e.c.2.1, .float .f32 e.c.2.2] rfl
  obtain ⟨W, hWe⟩ : ∃ W, W = ((w.alloc (Obj.cells #[.int .i64 s.sz, .float .f32 s.st, .float .f32 s.li.1, .float .f32 s.li.2.1, .float .f32 s.li.2.2, .slice A s.sh.length c, .int .i64 s.mir, .complex .f32 s.gr.1 s.gr.2, .float .f32 s.loss, .slice B s.bs.length d, .int .i64 s.tk, .slice L s.log.length q] 34)).alloc (Obj.cells #[.int .i64 e.k, .int .i64 e.n, .complex .f32 e.z.1 e.z.2, .complex .f32 e.s.1.1 e.s.1.2, .complex .f32 e.s.2.1.1 e.s.2.1.2, .complex .f32 e.s.2.2.1.1 e.s.2.2.1.2, .float .f32 e.s.2.2.2.1.1, .float .f32 e.s.2.2.2.1.2.1, .float .f32 e.s.2.2.2.1.2.2, .float .f32 e.s.2.2.2.2, .float .f32 e.c.1, .float .f32 e.c.2.1, .float .f32 e.c.2.2] 38)).alloc (Obj.cells #[.int .i64 0, .float .f32 0, .float .f32 0, .float .f32 0, .float .f32 0, .slice none 0 0, .int .i64 0, .complex .f32 0 0, .float .f32 0, .slice none 0 0, .int .i64 0, .slice none 0 0] 34) := ⟨_, rfl⟩
  rw [← hWe] at h
  rw [← hWe]
  clear hWe hb OWN
  have lx := h.lt
  have a0 := h.cx 0 _ rfl; have a1 := h.cx 1 _ rfl; have a2 := h.cx 2 _ rfl; have a3 := h.cx 3 _ rfl; have a4 := h.cx 4 _ rfl; have a5 := h.cx 5 _ rfl; have a6 := h.cx 6 _ rfl; have a7 := h.cx 7 _ rfl; have a8 := h.cx 8 _ rfl; have a9 := h.cx 9 _ rfl; have a10 := h.cx 10 _ rfl; have a11 := h.cx 11 _ rfl
  have y0 := h.cy 0 _ rfl; have y1 := h.cy 1 _ rfl; have y2 := h.cy 2 _ rfl; have y3 := h.cy 3 _ rfl; have y4 := h.cy 4 _ rfl; have y5 := h.cy 5 _ rfl; have y6 := h.cy 6 _ rfl; have y7 := h.cy 7 _ rfl; have y8 := h.cy 8 _ rfl; have y9 := h.cy 9 _ rfl; have y10 := h.cy 10 _ rfl; have y11 := h.cy 11 _ rfl; have y12 := h.cy 12 _ rfl
  go_upto_region 5 with fail
  go_upto_region 6 with (go_at_call 134; (with_reducible refine (KF.out _).mono ?_); rintro r w5 ⟨rfl, hb5⟩)
  obtain ⟨wc, hwc⟩ : ∃ wc, wc = w5.alloc (Obj.cells #[.int .i64 gt, .bool gf] 58) := ⟨_, rfl⟩
  replace h := (h.below_ hb5).alloc_ (Obj.cells #[.int .i64 gt, .bool gf] 58)
  rw [← hwc] at h
  rw [← hwc]
  have lx := h.lt
  clear a0 a1 a2 a3 a4 a5 a6 a7 a8 a9 a10 a11 y0 y1 y2 y3 y4 y5 y6 y7 y8 y9 y10 y11 y12 hwc hb5
  obtain ⟨j0, hj, hy0, hy1, hy2⟩ := info_parts infoShd
  obtain ⟨m0, hm0, hq0, hq1, hq2⟩ := info_parts infoBd
  have bx : base ≤ w.heap.size := h.bx
  have OA : Hid (wc.ownsRow base 36 7 (.slice A s.sh.length c) s.sh.length (flat shC s.sh)) := Lib.hid h.own.1
  have HSA := Lib.hid h
  have a0 := h.cx 0 _ rfl; have a1 := h.cx 1 _ rfl; have a2 := h.cx 2 _ rfl; have a3 := h.cx 3 _ rfl; have a4 := h.cx 4 _ rfl; have a5 := h.cx 5 _ rfl; have a6 := h.cx 6 _ rfl; have a7 := h.cx 7 _ rfl; have a8 := h.cx 8 _ rfl; have a9 := h.cx 9 _ rfl; have a10 := h.cx 10 _ rfl; have a11 := h.cx 11 _ rfl
  have y0 := h.cy 0 _ rfl; have y1 := h.cy 1 _ rfl; have y2 := h.cy 2 _ rfl; have y3 := h.cy 3 _ rfl; have y4 := h.cy 4 _ rfl; have y5 := h.cy 5 _ rfl; have y6 := h.cy 6 _ rfl; have y7 := h.cy 7 _ rfl; have y8 := h.cy 8 _ rfl; have y9 := h.cy 9 _ rfl; have y10 := h.cy 10 _ rfl; have y11 := h.cy 11 _ rfl; have y12 := h.cy 12 _ rfl
  go_upto_region 7 with (at_builtin; refine wpList_append_own_at _ rfl _ _ 27 rfl base 36 j0 (.agg #[.complex .f32 0 0, .complex .f32 0 0, .complex .f32 0 0, .float .f32 0, .float .f32 0, .float .f32 0, .float .f32 0]) 7 40 Tryz.underlying27 hj hy0 hy1 hy2 rfl (by decide) _ _ _ rfl (OA.out.alloc _) ⟨wc.heap.size, 0, none⟩ 1 1 (shC e.s) rfl rfl ?c1 ?c2 ?c3 ?c4 ?c5 ?_; (case c1 => exact World.news_of_block (cs := #[.complex .f32 e.s.1.1 e.s.1.2, .complex .f32 e.s.2.1.1 e.s.2.1.2, .complex .f32 e.s.2.2.1.1 e.s.2.2.1.2, .float .f32 e.s.2.2.2.1.1, .float .f32 e.s.2.2.2.1.2.1, .float .f32 e.s.2.2.2.1.2.2, .float .f32 e.s.2.2.2.2]) (t := 36) (fr := (0, 0)) (heap_alloc_new wc _)); (case c2 => simp [shC, Value.oneCell']); (case c3 => unfold maxLen; omega); (case c4 => omega); (case c5 => simp only [World.size_alloc]; omega); intro v3 w3 hown3 hg3 hne3 hat3; obtain ⟨A3, c3, rfl, h3⟩ := HSA.out.appA _ e.s hown3 hg3 hat3; have H3 := Lib.hid h3; have a0 := h3.cx 0 _ rfl; have a1 := h3.cx 1 _ rfl; have a2 := h3.cx 2 _ rfl; have a3 := h3.cx 3 _ rfl; have a4 := h3.cx 4 _ rfl; have a5 := h3.cx 5 _ rfl; have a6 := h3.cx 6 _ rfl; have a7 := h3.cx 7 _ rfl; have a8 := h3.cx 8 _ rfl; have a9 := h3.cx 9 _ rfl; have a10 := h3.cx 10 _ rfl; have a11 := h3.cx 11 _ rfl; have f0 := h3.fx 0; have f1 := h3.fx 1; have f2 := h3.fx 2; have f3 := h3.fx 3; have f4 := h3.fx 4; have f5 := h3.fx 5; have f6 := h3.fx 6; have f7 := h3.fx 7; have f8 := h3.fx 8; have f9 := h3.fx 9; have f10 := h3.fx 10; have f11 := h3.fx 11; have lx := h3.lt; clear HSA hown3 hg3 hne3 hat3 h3 OA)
  clear h
  have h := H3.out
  clear a0 a1 a2 a3 a4 a5 a6 a7 a8 a9 a10 a11 y0 y1 y2 y3 y4 y5 y6 y7 y8 y9 y10 y11 y12 f0 f1 f2 f3 f4 f5 f6 f7 f8 f9 f10 f11 H3
  replace h := (h.put 5 (.slice A3 (s.sh.length + 1) c3)); obtain ⟨V3, hV3e⟩ : ∃ V3, V3 = (w3.setCell ⟨w.heap.size, 5, none⟩ (.slice A3 (s.sh.length + 1) c3)) := ⟨_, rfl⟩; rw [← hV3e] at h; rw [← hV3e]; clear hV3e; replace lx := h.lt
  have OB : Hid (V3.ownsRow base 54 2 (.slice B s.bs.length d) s.bs.length (flat bdC s.bs)) := Lib.hid h.own.2.1
  have HSB := Lib.hid h
  have a0 := h.cx 0 _ rfl; have a1 := h.cx 1 _ rfl; have a2 := h.cx 2 _ rfl; have a3 := h.cx 3 _ rfl; have a4 := h.cx 4 _ rfl; have a5 := h.cx 5 _ rfl; have a6 := h.cx 6 _ rfl; have a7 := h.cx 7 _ rfl; have a8 := h.cx 8 _ rfl; have a9 := h.cx 9 _ rfl; have a10 := h.cx 10 _ rfl; have a11 := h.cx 11 _ rfl
  go_upto_region 23 with (at_builtin; refine wpList_append_own_at _ rfl _ _ 29 rfl base 54 m0 (.agg #[.complex .f32 0 0, .complex .f32 0 0]) 2 16 Tryz.underlying29 hm0 hq0 hq1 hq2 rfl (by decide) _ _ _ rfl (OB.out.alloc _) ⟨V3.heap.size, 0, none⟩ 1 1 (bdC ((p1, p2), (0, 0))) rfl rfl ?c1 ?c2 ?c3 ?c4 ?c5 ?_; (case c1 => exact World.news_of_block (cs := #[.complex .f32 p1 p2, .complex .f32 0 0]) (t := 54) (fr := (0, 0)) (heap_alloc_new V3 _)); (case c2 => simp [bdC, Value.oneCell']); (case c3 => unfold maxLen; omega); (case c4 => omega); (case c5 => simp only [World.size_alloc]; omega); intro v3 w4 hown3 hg3 hne3 hat3; obtain ⟨B3, d3, rfl, h3⟩ := HSB.out.appB _ ((p1, p2), (0, 0)) hown3 hg3 hat3; have H3 := Lib.hid h3; have a0 := h3.cx 0 _ rfl; have a1 := h3.cx 1 _ rfl; have a2 := h3.cx 2 _ rfl; have a3 := h3.cx 3 _ rfl; have a4 := h3.cx 4 _ rfl; have a5 := h3.cx 5 _ rfl; have a6 := h3.cx 6 _ rfl; have a7 := h3.cx 7 _ rfl; have a8 := h3.cx 8 _ rfl; have a9 := h3.cx 9 _ rfl; have a10 := h3.cx 10 _ rfl; have a11 := h3.cx 11 _ rfl; have f0 := h3.fx 0; have f1 := h3.fx 1; have f2 := h3.fx 2; have f3 := h3.fx 3; have f4 := h3.fx 4; have f5 := h3.fx 5; have f6 := h3.fx 6; have f7 := h3.fx 7; have f8 := h3.fx 8; have f9 := h3.fx 9; have f10 := h3.fx 10; have f11 := h3.fx 11; have lx := h3.lt; clear HSB hown3 hg3 hne3 hat3 h3 OB)
  clear h
  have h := H3.out
  clear a0 a1 a2 a3 a4 a5 a6 a7 a8 a9 a10 a11 f0 f1 f2 f3 f4 f5 f6 f7 f8 f9 f10 f11 H3
  replace h := (h.put 9 (.slice B3 (s.bs.length + 1) d3)); obtain ⟨U, hUe⟩ : ∃ U, U = (w4.setCell ⟨w.heap.size, 9, none⟩ (.slice B3 (s.bs.length + 1) d3)) := ⟨_, rfl⟩; rw [← hUe] at h; rw [← hUe]; clear hUe; replace lx := h.lt
  have a0 := h.cx 0 _ rfl; have a1 := h.cx 1 _ rfl; have a2 := h.cx 2 _ rfl; have a3 := h.cx 3 _ rfl; have a4 := h.cx 4 _ rfl; have a5 := h.cx 5 _ rfl; have a6 := h.cx 6 _ rfl; have a7 := h.cx 7 _ rfl; have a8 := h.cx 8 _ rfl; have a9 := h.cx 9 _ rfl; have a10 := h.cx 10 _ rfl; have a11 := h.cx 11 _ rfl
  have o0 := h.co 0 _ rfl; have o1 := h.co 1 _ rfl; have o2 := h.co 2 _ rfl; have o3 := h.co 3 _ rfl; have o4 := h.co 4 _ rfl; have o5 := h.co 5 _ rfl; have o6 := h.co 6 _ rfl; have o7 := h.co 7 _ rfl; have o8 := h.co 8 _ rfl; have o9 := h.co 9 _ rfl; have o10 := h.co 10 _ rfl; have o11 := h.co 11 _ rfl
  have fo : FA _ (w.heap.size + 1 + 1) := h.fo
  have g0 := fo 0; have g1 := fo 1; have g2 := fo 2; have g3 := fo 3; have g4 := fo 4; have g5 := fo 5; have g6 := fo 6; have g7 := fo 7; have g8 := fo 8; have g9 := fo 9; have g10 := fo 10; have g11 := fo 11
  have lx := h.lt
  go_wp2
  have hz := ((((((((((((h.puto 0 (.int .i64 (({ s with sh := s.sh ++ [e.s], bs := s.bs ++ [((p1, p2), (0, 0))] } : Shw)).sz)).puto 1 (.float .f32 (({ s with sh := s.sh ++ [e.s], bs := s.bs ++ [((p1, p2), (0, 0))] } : Shw)).st)).puto 2 (.float .f32 (({ s with sh := s.sh ++ [e.s], bs := s.bs ++ [((p1, p2), (0, 0))] } : Shw)).li.1)).puto 3 (.float .f32 (({ s with sh := s.sh ++ [e.s], bs := s.bs ++ [((p1, p2), (0, 0))] } : Shw)).li.2.1)).puto 4 (.float .f32 (({ s with sh := s.sh ++ [e.s], bs := s.bs ++ [((p1, p2), (0, 0))] } : Shw)).li.2.2)).puto 5 (.slice A3 (s.sh.length + 1) c3)).puto 6 (.int .i64 (({ s with sh := s.sh ++ [e.s], bs := s.bs ++ [((p1, p2), (0, 0))] } : Shw)).mir)).puto 7 (.complex .f32 (({ s with sh := s.sh ++ [e.s], bs := s.bs ++ [((p1, p2), (0, 0))] } : Shw)).gr.1 (({ s with sh := s.sh ++ [e.s], bs := s.bs ++ [((p1, p2), (0, 0))] } : Shw)).gr.2)).puto 8 (.float .f32 (({ s with sh := s.sh ++ [e.s], bs := s.bs ++ [((p1, p2), (0, 0))] } : Shw)).loss)).puto 9 (.slice B3 (s.bs.length + 1) d3)).puto 10 (.int .i64 (({ s with sh := s.sh ++ [e.s], bs := s.bs ++ [((p1, p2), (0, 0))] } : Shw)).tk)).puto 11 (.slice L s.log.length q))
  have co : CA _ (w.heap.size + 1 + 1) _ := hz.co
  have own := hz.own
  have bel := hz.bel
  have hin := And.intro hz.iA (And.intro hz.iB hz.iL)
  clear hz
  have z0 := co 0 _ rfl; have z1 := co 1 _ rfl; have z2 := co 2 _ rfl; have z3 := co 3 _ rfl; have z4 := co 4 _ rfl; have z5 := co 5 _ rfl; have z6 := co 6 _ rfl; have z7 := co 7 _ rfl; have z8 := co 8 _ rfl; have z9 := co 9 _ rfl; have z10 := co 10 _ rfl; have z11 := co 11 _ rfl
  refine bodyPost_ret (v := .tuple #[.agg #[.int .i64 (({ s with sh := s.sh ++ [e.s], bs := s.bs ++ [((p1, p2), (0, 0))] } : Shw)).sz, .float .f32 (({ s with sh := s.sh ++ [e.s], bs := s.bs ++ [((p1, p2), (0, 0))] } : Shw)).st, .float .f32 (({ s with sh := s.sh ++ [e.s], bs := s.bs ++ [((p1, p2), (0, 0))] } : Shw)).li.1, .float .f32 (({ s with sh := s.sh ++ [e.s], bs := s.bs ++ [((p1, p2), (0, 0))] } : Shw)).li.2.1, .float .f32 (({ s with sh := s.sh ++ [e.s], bs := s.bs ++ [((p1, p2), (0, 0))] } : Shw)).li.2.2, .slice A3 (s.sh.length + 1) c3, .int .i64 (({ s with sh := s.sh ++ [e.s], bs := s.bs ++ [((p1, p2), (0, 0))] } : Shw)).mir, .complex .f32 (({ s with sh := s.sh ++ [e.s], bs := s.bs ++ [((p1, p2), (0, 0))] } : Shw)).gr.1 (({ s with sh := s.sh ++ [e.s], bs := s.bs ++ [((p1, p2), (0, 0))] } : Shw)).gr.2, .float .f32 (({ s with sh := s.sh ++ [e.s], bs := s.bs ++ [((p1, p2), (0, 0))] } : Shw)).loss, .slice B3 (s.bs.length + 1) d3, .int .i64 (({ s with sh := s.sh ++ [e.s], bs := s.bs ++ [((p1, p2), (0, 0))] } : Shw)).tk, .slice L s.log.length q], .bool true]) (by simp [results, Tryz.results100, go_sem, z0, z1, z2, z3, z4, z5, z6, z7, z8, z9, z10, z11]) rfl ⟨?_, bel⟩
  exact sHap_yes (t := { s with sh := s.sh ++ [e.s], bs := s.bs ++ [((p1, p2), (0, 0))] }) own hin (by simp) rfl HT.out
end Go.Proofs.YthlphmojldbpkaaGreat
