/- What SeenLaw needs beside the other texts: GeoI · FltM · Kept · FmtC · FmtSym · RunI · Replay · Stand · CellTo · IsPic · Act · SpreadP · SeenIn · SymP · SymPS · CellsP · PicP · MirP · MirS · PicL · TakeL · InvL · DrawPic · TakenL · SeenL · FmtP · Ask · Has · MarkT · Open -/
import Derived.Test.YthlphmojldbpkaaGreatM0
import Derived.Test.YthlphmojldbpkaaGreatM1
import Derived.Test.YthlphmojldbpkaaGreatTick
import Derived.Test.YthlphmojldbpkaaGreatM3
import Derived.Test.YthlphmojldbpkaaGreatFltQ
import Derived.Test.YthlphmojldbpkaaGreatFltR
import Derived.Test.YthlphmojldbpkaaGreatM6
import Derived.Test.YthlphmojldbpkaaGreatDrawEv
import Derived.Test.YthlphmojldbpkaaGreatM8
import Derived.Test.YthlphmojldbpkaaGreatHap
import Derived.Test.YthlphmojldbpkaaGreatHapP
import Derived.Test.YthlphmojldbpkaaGreatHapT
import Derived.Test.YthlphmojldbpkaaGreatHapA
import Derived.Test.YthlphmojldbpkaaGreatHapM
import Derived.Test.YthlphmojldbpkaaGreatHapW
import Derived.Test.YthlphmojldbpkaaGreatM15
import Derived.Test.YthlphmojldbpkaaGreatM16
import Derived.Test.YthlphmojldbpkaaGreatEvI
import Derived.Test.YthlphmojldbpkaaGreatSDoG
import Derived.Test.YthlphmojldbpkaaGreatMix
import Derived.Test.YthlphmojldbpkaaGreatSeen
import Derived.Test.YthlphmojldbpkaaGreatM21
import Derived.Test.YthlphmojldbpkaaGreatDoI
import Derived.Test.YthlphmojldbpkaaGreatM23
import Derived.Test.YthlphmojldbpkaaGreatSpT
import Derived.Test.YthlphmojldbpkaaGreatM25
import Derived.Test.YthlphmojldbpkaaGreatSWait
import Derived.Test.YthlphmojldbpkaaGreatM27
import Derived.Test.YthlphmojldbpkaaGreatM28
import Derived.Test.YthlphmojldbpkaaGreatM29
import Derived.Test.YthlphmojldbpkaaGreatDoS
import Derived.Test.YthlphmojldbpkaaGreatM32
import Derived.Test.YthlphmojldbpkaaGreatDrawSB
import Derived.Test.YthlphmojldbpkaaGreatDrawShow
import Derived.Test.YthlphmojldbpkaaGreatM36
import Derived.Test.YthlphmojldbpkaaGreatM37
import Derived.Test.YthlphmojldbpkaaGreatM38
import Derived.Lib.SliceRun
import Derived.Laws.OwnMore
import Derived.Laws.IdiomStrings
import Derived.Laws.Strings
import Derived.Laws.Strings2
import Derived.Laws.Concat
import Derived.Deep.RegionHeld3
import Derived.Deep.DeepCutAuto
import Derived.Deep.AppendLies
import Derived.Deep.RegionLaw
import Derived.Deep.CutRange
import Derived.Laws.StructEq
import Derived.ProofKit
import Derived.ChangeOld
import Derived.Deep.Slices
import Derived.Lib.SmallJoins
/- GeoI -/
/- Points with small whole parts: what symmetries make of them; the cell to which a symmetry takes a cell. No program. -/
namespace Go.Proofs.YthlphmojldbpkaaGreat
theorem rot_small {p : Int × Int} (h : Sm 8 p) : rotB (flP p) = flP (rI p) := by
  obtain ⟨a, c, d, e⟩ := h
  unfold rotB flP rI
  rw [(small_at p.2 d e).1]
theorem rotN_small {p : Int × Int} (h : Sm 8 p) : ∀ n, rotN n (flP p) = flP (rIN n p)
  | 0 => rfl
  | n + 1 => by
    show rotB (rotN n (flP p)) = flP (rI (rIN n p))
    rw [rotN_small h n, rot_small (rIN_sm h n)]
theorem flipB_false (y : Nat) : flipB false y = y := rfl
theorem flipB_true (y : Nat) : flipB true y = subB 0 y := rfl
theorem rotN_flip {p : Int × Int} (h : Sm 8 p) (n : Nat) (f : Bool) : rotN n (fl p.1, flipB f (fl p.2)) = flP (rIN n (p.1, if f then -p.2 else p.2)) := by
  obtain ⟨x, y⟩ := p
  obtain ⟨a, c, d, e⟩ := h
  dsimp only at a c d e ⊢
  cases f
  · rw [flipB_false]
    simp only [Bool.false_eq_true, if_false]
    have := rotN_small (p := (x, y)) ⟨a, c, d, e⟩ n
    rw [← this]
    simp only [flP]
  · rw [flipB_true, (small_at y d e).1]
    simp only [if_true]
    have := rotN_small (p := (x, -y)) ⟨a, c, by show -8 ≤ -y; omega, by show -y ≤ 8; omega⟩ n
    rw [← this]
    simp only [flP]
theorem actI_small {p : Int × Int} (h : Sm 8 p) (t : Int) (f : Bool) : actI t f (fl p.1) (fl p.2) = flP (aI t f p) := by
  have hs := aI_sm h t f
  have hq : rotN t.toNat (fl p.1, flipB f (fl p.2)) = flP (aI t f p) := rotN_flip h _ f
  obtain ⟨a, c, d, e⟩ := hs
  unfold actI
  rw [hq]
  simp only [flP]
  rw [(small_at _ a c).2.2.1, (small_at _ d e).2.2.1]
theorem point_small {p : Int × Int} (h : Sm 8 p) : pointB (fl p.1) (fl p.2) = true := by
  obtain ⟨a, c, d, e⟩ := h
  unfold pointB
  rw [(small_at p.1 a c).2.2.2.1, (small_at p.2 d e).2.2.2.1]
  rfl
end Go.Proofs.YthlphmojldbpkaaGreat
/- FltM -/
/- A part of a colour times sixteen, as a whole number. -/
namespace Go.Proofs.YthlphmojldbpkaaGreat
open Ieee
theorem toInt_small {y : Nat} (h : y ≤ 1098907648) : ∃ k : Nat, k ≤ 16 ∧ floatToIntVal .f32 y .i64 = some (k : Int) := by
  have fin : ∀ k : Nat, k ≤ 16 → (single.read y).toInt .zero = some (k : Int) → ∃ k : Nat, k ≤ 16 ∧ floatToIntVal .f32 y .i64 = some (k : Int) := by
    intro k hk e
    refine ⟨k, hk, ?_⟩
    have e' : (FloatKind.f32.decode y).toInt .zero = some (k : Int) := e
    unfold floatToIntVal
    rw [e']
    have b1 : IntKind.i64.min = -9223372036854775808 := by decide
    have b2 : IntKind.i64.max = 9223372036854775807 := by decide
    simp only
    rw [if_pos ⟨by omega, by omega⟩]
  have hl : single.leastPlace = -149 := by decide
  have hm : y % 2147483648 = y := Nat.mod_eq_of_lt (by omega)
  have hs : (y / 2147483648 % 2 == 1) = false := by
    have : y / 2147483648 = 0 := Nat.div_eq_of_lt (by omega)
    rw [this]; rfl
  by_cases h1 : y < 8388608
  · have e : single.read y = .number false y (-149) := by
      unfold Format.read
      rw [c_sw, c_bin, c_inf, hm, hs, hl]
      simp only [if_pos h1]
    refine fin 0 (by omega) ?_
    rw [e]
    unfold Datum.toInt Datum.integral Toward.cut
    simp only [Bool.toNat_false, Nat.add_zero]
    have hz : y / 1 <<< min 149 (y.log2 + 2) = 0 := by
      refine Nat.div_eq_of_lt ?_
      rw [Nat.one_shiftLeft]
      by_cases hy : y = 0
      · subst hy; exact Nat.two_pow_pos _
      · have h2 : y < 2 ^ (y.log2 + 1) := Nat.lt_log2_self
        refine Nat.lt_of_lt_of_le h2 (Nat.pow_le_pow_right (by omega) ?_)
        have h3 : y.log2 < 23 := (Nat.log2_lt hy).2 (by omega)
        omega
    have hz' : (y <<< (Int.toNat (-149))) / 1 <<< min (Int.toNat (- -149)) ((y <<< (Int.toNat (-149))).log2 + 2) = 0 := by
      simpa using hz
    rw [hz']
    rfl
  · have e : single.read y = .number false (8388608 + y % 8388608) (-149 + (y / 8388608 - 1 : Nat)) := by
      unfold Format.read
      rw [c_sw, c_bin, c_inf, hm, hs, hl]
      simp only [if_neg h1]
      rw [if_pos (by omega)]
    obtain ⟨m, hmd⟩ : ∃ m, m = 8388608 + y % 8388608 := ⟨_, rfl⟩
    obtain ⟨d, hd⟩ : ∃ d, d = 150 - y / 8388608 := ⟨_, rfl⟩
    have hq : y / 8388608 ≤ 131 := by omega
    have hq1 : 1 ≤ y / 8388608 := by omega
    have hp : (-149 : Int) + (y / 8388608 - 1 : Nat) = -(d : Int) := by omega
    have hlog : m.log2 = 23 := log2_bd (by omega) (by omega)
    have hk : m / 1 <<< min d 25 ≤ 16 := by
      rw [Nat.one_shiftLeft]
      by_cases h131 : y / 8388608 = 131
      · have hm0 : m = 8388608 := by omega
        have hd0 : d = 19 := by omega
        rw [hm0, hd0]; decide
      · have hd1 : 20 ≤ min d 25 := by omega
        have h2 : 2 ^ 20 ≤ 2 ^ min d 25 := Nat.pow_le_pow_right (by omega) hd1
        have h3 : m / 2 ^ min d 25 ≤ m / 2 ^ 20 := Nat.div_le_div_left h2 (by decide)
        have h4 : m / 2 ^ 20 ≤ 15 := by omega
        omega
    refine fin (m / 1 <<< min d 25) hk ?_
    rw [e, ← hmd, hp]
    unfold Datum.toInt Datum.integral Toward.cut
    have h0 : (-(d : Int)).toNat = 0 := by omega
    have h5 : (- -(d : Int)).toNat = d := by omega
    simp only [h0, h5, Nat.shiftLeft_zero, hlog, Bool.toNat_false, Nat.add_zero, signed]
    rfl
theorem cut_bd {M L drop : Nat} (hlo : 19 ≤ L + 2) (hd : 19 ≤ drop) (hM : M < 2 ^ 46) (hL : M.log2 = L) : Toward.even.cut false M drop ≤ 134217729 := by
  unfold Toward.cut
  rw [hL]
  simp only []
  have hg : 2 ^ 19 ≤ 1 <<< min drop (L + 2) := by
    rw [Nat.one_shiftLeft]
    exact Nat.pow_le_pow_right (by omega) (by omega)
  generalize 1 <<< min drop (L + 2) = gap at hg ⊢
  have h3 : M / gap ≤ M / 2 ^ 19 := Nat.div_le_div_left hg (by decide)
  have h4 : M / 2 ^ 19 ≤ 134217728 := by omega
  have h5 : ∀ b : Bool, b.toNat ≤ 1 := by decide
  exact Nat.le_trans (Nat.add_le_add (Nat.le_trans h3 h4) (h5 _)) (by decide)
/-- a small number's nearest word -/
theorem near_sub {r : Nat} (hr : r ≠ 0) (h1 : r < 8388608) : single.nearest false (r * 8388608) (-168) ≤ 1098907648 := by
  have hl : single.leastPlace = -149 := by decide
  have hfb : single.fractionBits = 23 := rfl
  have hM : r * 8388608 ≠ 0 := by omega
  have hMb : r * 8388608 < 2 ^ 46 := by omega
  have hlo : 23 ≤ (r * 8388608).log2 := (Nat.le_log2 hM).2 (by omega)
  have hhi : (r * 8388608).log2 < 46 := (Nat.log2_lt hM).2 hMb
  obtain ⟨M, hMe⟩ : ∃ M, M = r * 8388608 := ⟨_, rfl⟩
  rw [← hMe] at hM hMb hlo hhi ⊢
  clear hMe
  unfold Format.nearest
  rw [if_neg hM, hl, hfb, c_bin, c_inf]
  simp only []
  generalize hLg : M.log2 = L at hlo hhi ⊢
  obtain ⟨last, hlast⟩ : ∃ last : Int, last = max (-168 + (L : Int) - (23 : Nat)) (-149) := ⟨_, rfl⟩
  rw [← hlast]
  have b1 : -149 ≤ last := by omega
  have b2 : last ≤ -146 := by omega
  have z : (-168 - last).toNat = 0 := by omega
  rw [z, Nat.shiftLeft_zero]
  have hkept := cut_bd (M := M) (L := L) (drop := (last - -168).toNat) (by omega) (by omega) hMb hLg
  rw [word_false]
  have hu : (last - -149).toNat ≤ 3 := by omega
  refine Nat.le_trans (Nat.min_le_left _ _) ?_
  generalize (last - -149).toNat = u at hu
  generalize Toward.even.cut false M (last - -168).toNat = kept at hkept
  clear hlast
  omega
/-- a normal number times a power of two -/
theorem near_norm {m d : Nat} (h1 : 8388608 ≤ m) (h2 : m < 16777216) (hd : (d + 4) * 8388608 + m ≤ 1098907648) : single.nearest false (m * 8388608) (-149 + (d : Int) + -19) ≤ 1098907648 := by
  have hl : single.leastPlace = -149 := by decide
  have hfb : single.fractionBits = 23 := rfl
  have hM : m * 8388608 ≠ 0 := by omega
  have hlog : (m * 8388608).log2 = 46 := log2_bd (by omega) (by omega)
  have r0 : m * 8388608 % 8388608 = 0 := by omega
  have d0 : m * 8388608 / 8388608 = m := by omega
  obtain ⟨M, hMe⟩ : ∃ M, M = m * 8388608 := ⟨_, rfl⟩
  rw [← hMe] at hM hlog r0 d0 ⊢
  clear hMe
  unfold Format.nearest
  rw [if_neg hM, hl, hfb, c_bin, c_inf, hlog]
  simp only []
  obtain ⟨last, hlast⟩ : ∃ last : Int, last = max (-149 + (d : Int) + -19 + ((46 : Nat) : Int) - (23 : Nat)) (-149) := ⟨_, rfl⟩
  rw [← hlast]
  have b1 : last = (d : Int) - 145 := by omega
  have z : (-149 + (d : Int) + -19 - last).toNat = 0 := by omega
  have z2 : (last - (-149 + (d : Int) + -19)).toNat = 23 := by omega
  have z3 : (last - -149).toNat = d + 4 := by omega
  rw [z, z2, z3, Nat.shiftLeft_zero]
  have hkept : Toward.even.cut false M 23 = m := by
    unfold Toward.cut
    rw [hlog]
    have hg : 1 <<< min 23 (46 + 2) = 8388608 := by decide
    simp only [hg]
    rw [r0, d0]
    simp
  rw [hkept, word_false]
  refine Nat.le_trans (Nat.min_le_left _ _) ?_
  exact hd
/-- times sixteen, of a word that is not below nought -/
theorem times16 {r : Nat} (h : r ≤ 1065353216) (x : Nat) (hx : x % 2147483648 = r) (hs : negB x = false) : ∃ y, floatBits .mul .f32 x 1098907648 = some y ∧ y ≤ 1098907648 := by
  have hl : single.leastPlace = -149 := by decide
  have e16 : single.read 1098907648 = .number false 8388608 (-19) := by decide
  have eb : floatBits .mul .f32 x 1098907648 = single.mul x 1098907648 := rfl
  have hsx : (x / 2147483648 % 2 == 1) = false := hs
  rw [eb]
  unfold Format.mul
  by_cases h1 : r < 8388608
  · have e : single.read x = .number false r (-149) := by
      unfold Format.read
      rw [c_sw, c_bin, c_inf, hx, hsx, hl]
      simp only [if_pos h1]
    rw [e, e16]
    simp only [Datum.product, Option.map_some, Format.write, Bool.xor_false]
    refine ⟨_, rfl, ?_⟩
    by_cases hr : r = 0
    · subst hr; decide
    · exact near_sub hr h1
  · have e : single.read x = .number false (8388608 + r % 8388608) (-149 + (r / 8388608 - 1 : Nat)) := by
      unfold Format.read
      rw [c_sw, c_bin, c_inf, hx, hsx, hl]
      simp only [if_neg h1]
      rw [if_pos (by omega)]
    have b1 : r % 8388608 < 8388608 := Nat.mod_lt _ (by decide)
    have b2 := Nat.div_add_mod r 8388608
    obtain ⟨m, hmd⟩ : ∃ m, m = 8388608 + r % 8388608 := ⟨_, rfl⟩
    obtain ⟨d, hd⟩ : ∃ d, d = r / 8388608 - 1 := ⟨_, rfl⟩
    have b3 : 1 ≤ r / 8388608 := by omega
    have b4 : (d + 4) * 8388608 + m ≤ 1098907648 := by omega
    rw [← hmd, ← hd] at e
    rw [e, e16]
    simp only [Datum.product, Option.map_some, Format.write, Bool.xor_false]
    exact ⟨_, rfl, near_norm (by omega) (by omega) b4⟩
/-- what 'int(x * 16)' gives for a part of a colour -/
def stepB (x : Nat) : Nat := match floatBits .mul .f32 x 1098907648 with
  | some y => match floatToIntVal .f32 y .i64 with
    | some k => k.toNat
    | none => 0
  | none => 0
theorem part_step {x : Nat} (h : partB x = true) : ∃ y, floatBits .mul .f32 x 1098907648 = some y ∧ mulB x 1098907648 = cleanB y ∧ floatToIntVal .f32 y .i64 = some (stepB x : Int) ∧ floatToIntVal .f32 (cleanB y) .i64 = some (stepB x : Int) ∧ stepB x ≤ 16 := by
  obtain ⟨h1, h2⟩ := part_rung h
  have fin : ∀ y, floatBits .mul .f32 x 1098907648 = some y → (∃ k : Nat, k ≤ 16 ∧ floatToIntVal .f32 y .i64 = some (k : Int) ∧ floatToIntVal .f32 (cleanB y) .i64 = some (k : Int)) → ∃ y, floatBits .mul .f32 x 1098907648 = some y ∧ mulB x 1098907648 = cleanB y ∧ floatToIntVal .f32 y .i64 = some (stepB x : Int) ∧ floatToIntVal .f32 (cleanB y) .i64 = some (stepB x : Int) ∧ stepB x ≤ 16 := by
    rintro y hy ⟨k, hk, e1, e2⟩
    have e : stepB x = k := by unfold stepB; rw [hy]; simp only [e1]; omega
    refine ⟨y, hy, by unfold mulB arB; rw [hy], ?_⟩
    rw [e]
    exact ⟨e1, e2, hk⟩
  cases hn : negB x
  · obtain ⟨y, hy, hb⟩ := times16 h1 x rfl hn
    refine fin y hy ?_
    obtain ⟨k, hk, e⟩ := toInt_small hb
    refine ⟨k, hk, e, ?_⟩
    unfold cleanB
    cases hz : (finB y && !zeroB y)
    · have h0 : y = 0 := by
        rw [Bool.and_eq_false_iff] at hz
        rcases hz with h | h
        · unfold finB at h; simp at h; omega
        · unfold zeroB at h; simp at h; omega
      subst h0
      exact e
    · exact e
  · have h0 := h2 hn
    have e : single.read x = .number true 0 (-149) := by
      unfold rung at h0
      have hl : single.leastPlace = -149 := by decide
      have hsx : (x / 2147483648 % 2 == 1) = true := hn
      unfold Format.read
      rw [c_sw, c_bin, c_inf, h0, hsx, hl]
      simp
    refine fin 2147483648 ?_ ⟨0, by omega, by decide +kernel, by decide +kernel⟩
    show single.mul x 1098907648 = _
    have e16 : single.read 1098907648 = .number false 8388608 (-19) := by decide
    unfold Format.mul
    rw [e, e16]
    simp only [Datum.product, Option.map_some, Format.write, Nat.zero_mul]
    decide
end Go.Proofs.YthlphmojldbpkaaGreat
/- Kept -/
/- What slices.DeleteFunc leaves in its row; clear; rows cut shorter. -/
namespace Go.Proofs.YthlphmojldbpkaaGreat
open Go.RowKit
theorem KeptI.start {α : Type} {keep : α → Bool} {l : List α} {i : Nat} {x : α} (hx : l[i]? = some x) (hq : keep x = false) (hall : ∀ y ∈ l.take i, keep y = true) : KeptI keep l l i (i + 1) := by
  have hi := (List.getElem?_eq_some_iff.1 hx).1
  refine ⟨rfl, by omega, by omega, ?_, fun _ _ => rfl⟩
  rw [List.take_add_one, hx, List.filter_append, List.filter_eq_self.2 hall]
  simp [hq]
theorem flat_set2 {ys : List (Int × Bool)} : ∀ {i : Nat}, i < ys.length → ∀ (t : Int) (f : Bool), flat symC (ys.set i (t, f)) = ((flat symC ys).set (i * 2) (.int .i64 t)).set (i * 2 + 1) (.bool f) := by
  induction ys with
  | nil => intro i h; simp at h
  | cons y ys ih =>
    intro i h t f
    cases i with
    | zero => rfl
    | succ i =>
      rw [List.set_cons_succ, flat_cons, flat_cons, ih (by simpa using h)]
      have e : (i + 1) * 2 = i * 2 + 1 + 1 := by omega
      rw [e]
      rfl
theorem below_setCells {B g : Nat} {w0 : World} (hg : B ≤ g) : ∀ (us : List Value) (j : Nat) (w : World), Below B w0 w → Below B w0 (w.setCells g j us)
  | [], _, _, h => h
  | u :: us, j, _, h => below_setCells hg us (j + 1) _ (h.setCell hg u)
theorem zeroCells_sym (n : Nat) : ∀ v ∈ (Builtin.zeroCells #[.int .i64 0, .bool false] n).toList, v.oneCell' = true := by
  intro v hv
  unfold Builtin.zeroCells at hv
  rw [Array.toList_map, List.mem_map] at hv
  obtain ⟨i, _, rfl⟩ := hv
  have : i % #[Value.int .i64 0, Value.bool false].size < 2 := Nat.mod_lt _ (by simp)
  generalize i % #[Value.int .i64 0, Value.bool false].size = k at this
  rcases (by omega : k = 0 ∨ k = 1) with rfl | rfl <;> rfl
end Go.Proofs.YthlphmojldbpkaaGreat
/- FmtC -/
/- FormatColour, both versions. -/
namespace Go.Proofs.YthlphmojldbpkaaGreat
open Go.RowKit
attribute [local go_sem] run_store_float run_store_complex
def digL : List UInt8 := [48, 49, 50, 51, 52, 53, 54, 55, 56, 57, 97, 98, 99, 100, 101, 102]
def digU (k : Nat) : UInt8 := digL.getD k 0
def digX (x : Nat) : Nat := min (stepB x) 15
def colS (c : Col) : List UInt8 := [digU (digX c.1), digU (digX c.2.1), digU (digX c.2.2)]
theorem run_hex {P : Program} (t : TypeId) (k : Nat) (hk : k < 16) (h : P.underlying t = some .string) (w : World) :
    (Instr.index t (.string ⟨#[48, 49, 50, 51, 52, 53, 54, 55, 56, 57, 97, 98, 99, 100, 101, 102]⟩) (.int .i64 (k : Int))).run P w = .ok (.int .u8 (digU k).toNat) w := by
  have hs : (ByteArray.mk #[48, 49, 50, 51, 52, 53, 54, 55, 56, 57, 97, 98, 99, 100, 101, 102]).size = 16 := rfl
  rw [run_index_string w t _ _ _ h, dif_pos ⟨by omega, by rw [hs]; omega⟩]
  have : ∀ k : Nat, (hk : k < 16) → (ByteArray.mk #[48, 49, 50, 51, 52, 53, 54, 55, 56, 57, 97, 98, 99, 100, 101, 102])[k]'hk = digU k := by clear hs; decide +revert
  simp only [Int.toNat_natCast, this k hk]
theorem strAdd {P : Program} (x y : List UInt8) (hx : x.length ≤ 8388608) (hy : y.length ≤ 8388608) (w : World) : (Op.stringOp .add ⟨x.toArray⟩ ⟨y.toArray⟩).run P w = .ok (.string ⟨(x ++ y).toArray⟩) w :=
  run_string_add_lists w x y (by omega) (by omega)
def fltC (x : Nat) : List Value := [.float .f32 x]
theorem Rd.flt {w : World} {B : Nat} {A : Option Addr} {n k : Nat} {xs : List Nat} (h : Rd fltC 1 w B A n xs) (hk : k < n) :
    ∃ b off x, A = some ⟨b, off, none⟩ ∧ b < B ∧ xs[k]? = some x ∧ w.cell? ⟨b, off + k, none⟩ = some (.float .f32 x) := by
  obtain ⟨b, off, x, e, hb, hx, hc⟩ := h.at_ hk
  have := hc 0 _ rfl
  rw [Nat.mul_one, Nat.add_zero] at this
  exact ⟨b, off, x, e, hb, hx, this⟩
theorem Rd.gro1 {α : Type} {enc : α → List Value} {sz : Nat} {w w' : World} {B f n : Nat} {xs : List α} {row : Option Nat} {o : Nat} (h : Rd enc sz w B (some ⟨f, o, none⟩) n xs) (hg : w.grownBy w' row) (hlt : f < w.heap.size) (hne : row ≠ some f) :
    Rd enc sz w' B (some ⟨f, o, none⟩) n xs :=
  ⟨h.1, fun hn => by
    obtain ⟨b, off, e, hb, hc⟩ := h.2 hn
    injection e with e
    injection e with e1 e2
    subst e1 e2
    exact ⟨f, o, rfl, hb, fun k x hx j u hu => (World.cell?_of_block (hg.block f hlt (fun e => hne e.symm))).trans (hc k x hx j u hu)⟩⟩
theorem infoByte : (Tryz.prog.info? 5).map (fun i => (i.zero, i.size, i.bytes)) = some (some (.int .u8 0), 1, 1) := by kernel_rfl
def digI (x : Nat) : Int := (digU (digX x)).toNat
def digsI (xs : List Nat) : List Int := xs.map digI
set_option maxRecDepth 100000 in
set_option maxHeartbeats 4000000 in
theorem formatColour_any (r g b : Nat) (w : World) (hc : colB (r, g, b) = true) :
    Calls Tryz.prog 57 #[.agg #[.float .f32 r, .float .f32 g, .float .f32 b]] w fun e w' => e = .returned (.string ⟨(colS (r, g, b)).toArray⟩) ∧ Below w.heap.size w w' := by
  obtain ⟨i0, hi, hz0, hz1, hz2⟩ := info_parts infoByte
  have hp := hc
  unfold colB at hp
  simp only [Bool.and_eq_true] at hp
  obtain ⟨p1, p2, p3⟩ := hp
  have PP : ∀ (k : Nat) (x : Nat), [r, g, b][k]? = some x → partB x = true := by
    intro k x hx
    have := List.mem_of_getElem? hx
    simp at this
    rcases this with rfl | rfl | rfl <;> assumption
  have PP := Lib.hid PP
  clear p1 p2 p3
  go_enter Tryz.func57, Tryz.ntmps57
  go_wp2_with fail
  refine (isColour_any r g b _).mono ?_
  rw [hc]
  rintro e w1 ⟨rfl, hb1⟩
  have kc_0 := keepC (p := ⟨w.heap.size, 0, none⟩) (v := .float .f32 r) (by first | assumption | (simp [go_sem]; done) | (simp [go_sem, *]; done)) hb1; have kc_1 := keepC (p := ⟨w.heap.size, 1, none⟩) (v := .float .f32 g) (by first | assumption | (simp [go_sem]; done) | (simp [go_sem, *]; done)) hb1; have lb_ := (show w.heap.size < _ from World.block_lt_of_cell? _ _ kc_0)
  have kc_2 := keepC (p := ⟨w.heap.size, 2, none⟩) (v := .float .f32 b) (by simp [go_sem]) hb1
  have hW1 : Below w.heap.size w w1 := by (repeat (first | with_reducible assumption | exact Below.refl _ _ | (refine Below.setCell ?_ (by first | exact Nat.le_refl _ | (simp; done) | omega | (simp; omega)) _) | (refine below_drewN ?_ _) | (refine Below.drew ?_) | (refine Below.alloc ?_ (by first | exact Nat.le_refl _ | (simp; done) | omega | (simp; omega)) _) | (refine then_ ?_ (by with_reducible assumption)) | assumption | (refine then_ ?_ (by assumption))))
  clear hb1
  go_wp2_with fail
  obtain ⟨V, hVe⟩ : ∃ V, V = (w1.alloc (Obj.cells #[] 5)).alloc (Obj.cells #[.float .f32 r, .float .f32 g, .float .f32 b] 24) := ⟨_, rfl⟩
  have hV : Below w1.heap.size w1 V := by rw [hVe]; (repeat (first | with_reducible assumption | exact Below.refl _ _ | (refine Below.setCell ?_ (by first | exact Nat.le_refl _ | (simp; done) | omega | (simp; omega)) _) | (refine below_drewN ?_ _) | (refine Below.drew ?_) | (refine Below.alloc ?_ (by first | exact Nat.le_refl _ | (simp; done) | omega | (simp; omega)) _) | (refine then_ ?_ (by with_reducible assumption)) | assumption | (refine then_ ?_ (by assumption))))
  have zV : V.heap.size = w1.heap.size + 2 := by rw [hVe]; simp
  have o0 : V.ownsRow w1.heap.size 5 1 (.slice (some ⟨w1.heap.size, 0, none⟩) 0 0) 0 [] := by
    rw [hVe]
    exact (World.ownsRow_lit (base := w1.heap.size) w1 #[] 0 (Nat.le_refl _) (by simp [maxLen]) rfl).alloc _
  have RF : Rd fltC 1 V V.heap.size (some ⟨w1.heap.size + 1, 0, none⟩) 3 [r, g, b] := by
    refine ⟨rfl, fun _ => ⟨_, _, rfl, by omega, ?_⟩⟩
    intro k x hx j u hu
    have hj : j = 0 := by
      have := (List.getElem?_eq_some_iff.1 hu).1
      simp [fltC] at this; exact this
    subst hj
    simp [fltC] at hu
    subst hu
    rw [hVe]
    match k, hx with
    | 0, hx => simp at hx; subst hx; simp [go_sem]
    | 1, hx => simp at hx; subst hx; simp [go_sem]
    | 2, hx => simp at hx; subst hx; simp [go_sem]
  rw [← hVe]
  clear hVe
  have O0 := Lib.hid o0
  clear o0
  go_loopw [3, 18] (fun v i wr => ∃ k : Nat, k ≤ 3 ∧ i = .int .i64 k ∧ (∃ A c, v = .slice A k c) ∧ wr.ownsRow w1.heap.size 5 1 v k (flat byteC (digsI ([r, g, b].take k))) ∧ Off v (w1.heap.size + 1) ∧ Rd fltC 1 wr V.heap.size (some ⟨w1.heap.size + 1, 0, none⟩) 3 [r, g, b] ∧ V.heap.size ≤ wr.heap.size ∧ Below w1.heap.size w1 wr) (fun _ i _ => 3 - (intOf i).toNat)
  case atStart => exact ⟨0, by omega, rfl, ⟨_, _, rfl⟩, O0.out, by unfold Off Value.ownBlock; simp, RF, Nat.le_refl _, hV⟩
  case round =>
    clear RF O0 hV
    obtain ⟨k, hk, rfl, ⟨A1, c1, rfl⟩, hown, hoff, hrd, hsz, hw⟩ := hrel
    have OW := Lib.hid hown
    have OFF := Lib.hid hoff
    have RF := Lib.hid hrd
    clear hown hoff
    by_cases hlt : k < 3
    · obtain ⟨bb, off, x, e, _, hx, c0⟩ := hrd.flt hlt
      injection e with e
      injection e with e1 e2
      subst e1 e2
      rw [Nat.zero_add] at c0
      obtain ⟨y, h1, h2, h3, h4, h5⟩ := part_step (PP.out k x hx)
      have HX := Lib.hid hx
      have hm := fun wx => run_float_arith (P := Tryz.prog) wx .mul 24 .f32 x 1098907648 y h1
      have hcv := fun wx => run_convert_float_int (P := Tryz.prog) wx 24 3 .f32 .i64 y _ (by rw [Tryz.underlying24]; rfl) Tryz.underlying3 h3
      obtain ⟨j, hj⟩ : ∃ j, j = stepB x := ⟨_, rfl⟩
      rw [← hj] at hcv h5
      have D := Lib.hid (show digX x = min j 15 by unfold digX; rw [hj])
      have hki : (k : Int) < 3 := by omega
      have hk0 : (0 : Int) ≤ (k : Int) := by omega
      have hx16 : min j 15 < 16 := by omega
      obtain ⟨u, hu⟩ : ∃ u : Int, u = ((digU (min j 15)).toNat : Int) := ⟨_, rfl⟩
      have hh := fun wx => run_hex (P := Tryz.prog) 9 (min j 15) hx16 Tryz.underlying9 wx
      rw [← hu] at hh
      have U := Lib.hid (show digI x = u by unfold digI; rw [D.out, hu])
      clear hrd h1 h2 h3 h4 hj hu hx
      by_cases h15 : (j : Int) ≤ 15
      · have e : min j 15 = j := by omega
        rw [e] at hh
        clear e D hx16
        go_wp2_with (at_builtin; refine wpList_append_own_at _ rfl _ _ 22 rfl w1.heap.size 5 i0 (.int .u8 0) 1 1 Tryz.underlying22 hi hz0 hz1 hz2 rfl (by decide) _ _ _ rfl (OW.out.alloc _) ⟨wr.heap.size, 0, none⟩ 1 1 [.int .u8 u] rfl rfl ?c13 ?c23 ?c33 ?c43 ?c53 ?_; (case c13 => exact World.news_of_block (cs := #[.int .u8 u]) (t := 5) (fr := (0, 0)) (heap_alloc_new wr _)); (case c23 => simp [Value.oneCell']); (case c33 => unfold maxLen; omega); (case c43 => omega); (case c53 => (have := Below.size hw; simp only [World.size_alloc]; omega)); intro v3 w3 hown3 hg3 hne3 hat3; simp only [World.size_alloc] at hat3; have GB3 := Lib.hid hg3; have OW3 := Lib.hid hown3; have BW3 := below_append hw OW.out hg3; have NB3 := Lib.hid hat3; clear hown3 hg3 hne3 hat3)
        go_roundw
        case rel =>
          obtain ⟨A3, c3, rfl⟩ := owns_slice OW3.out
          have hA := (show Below wr.heap.size wr (wr.alloc (Obj.cells #[.int .u8 u] 5)) by (repeat (first | with_reducible assumption | exact Below.refl _ _ | (refine Below.setCell ?_ (by first | exact Nat.le_refl _ | (simp; done) | omega | (simp; omega)) _) | (refine below_drewN ?_ _) | (refine Below.drew ?_) | (refine Below.alloc ?_ (by first | exact Nat.le_refl _ | (simp; done) | omega | (simp; omega)) _) | (refine then_ ?_ (by with_reducible assumption)) | assumption | (refine then_ ?_ (by assumption)))))
          refine ⟨k + 1, by omega, by go_num, ⟨_, _, rfl⟩, ?_, OFF.out.next (by omega) NB3.out, ?_, ?_, BW3⟩
          · rw [List.take_add_one, HX.out]
            have e : flat byteC (digsI ([r, g, b].take k ++ (some x).toList)) = flat byteC (digsI ([r, g, b].take k)) ++ [.int .u8 u] := by
              unfold digsI
              rw [List.map_append, flat_append, ← U.out]
              rfl
            rw [e]
            exact OW3.out
          · exact Rd.gro1 (Rd.gro1 RF.out (grown_of_below hA none) (by omega) (by simp)) GB3.out (by simp only [World.size_alloc]; omega) OFF.out
          · have := GB3.out.size
            simp only [World.size_alloc] at this
            omega
        case measure => simp [intOf]; omega
      · have h15' : (15 : Int) < (j : Int) := by omega
        clear h15
        have e : min j 15 = 15 := by omega
        rw [e] at hh
        have e15 : ((15 : Nat) : Int) = 15 := rfl
        rw [e15] at hh
        clear e e15 D hx16
        go_wp2_with (at_builtin; refine wpList_append_own_at _ rfl _ _ 22 rfl w1.heap.size 5 i0 (.int .u8 0) 1 1 Tryz.underlying22 hi hz0 hz1 hz2 rfl (by decide) _ _ _ rfl (OW.out.alloc _) ⟨wr.heap.size, 0, none⟩ 1 1 [.int .u8 u] rfl rfl ?c13 ?c23 ?c33 ?c43 ?c53 ?_; (case c13 => exact World.news_of_block (cs := #[.int .u8 u]) (t := 5) (fr := (0, 0)) (heap_alloc_new wr _)); (case c23 => simp [Value.oneCell']); (case c33 => unfold maxLen; omega); (case c43 => omega); (case c53 => (have := Below.size hw; simp only [World.size_alloc]; omega)); intro v3 w3 hown3 hg3 hne3 hat3; simp only [World.size_alloc] at hat3; have GB3 := Lib.hid hg3; have OW3 := Lib.hid hown3; have BW3 := below_append hw OW.out hg3; have NB3 := Lib.hid hat3; clear hown3 hg3 hne3 hat3)
        go_roundw
        case rel =>
          obtain ⟨A3, c3, rfl⟩ := owns_slice OW3.out
          have hA := (show Below wr.heap.size wr (wr.alloc (Obj.cells #[.int .u8 u] 5)) by (repeat (first | with_reducible assumption | exact Below.refl _ _ | (refine Below.setCell ?_ (by first | exact Nat.le_refl _ | (simp; done) | omega | (simp; omega)) _) | (refine below_drewN ?_ _) | (refine Below.drew ?_) | (refine Below.alloc ?_ (by first | exact Nat.le_refl _ | (simp; done) | omega | (simp; omega)) _) | (refine then_ ?_ (by with_reducible assumption)) | assumption | (refine then_ ?_ (by assumption)))))
          refine ⟨k + 1, by omega, by go_num, ⟨_, _, rfl⟩, ?_, OFF.out.next (by omega) NB3.out, ?_, ?_, BW3⟩
          · rw [List.take_add_one, HX.out]
            have e : flat byteC (digsI ([r, g, b].take k ++ (some x).toList)) = flat byteC (digsI ([r, g, b].take k)) ++ [.int .u8 u] := by
              unfold digsI
              rw [List.map_append, flat_append, ← U.out]
              rfl
            rw [e]
            exact OW3.out
          · exact Rd.gro1 (Rd.gro1 RF.out (grown_of_below hA none) (by omega) (by simp)) GB3.out (by simp only [World.size_alloc]; omega) OFF.out
          · have := GB3.out.size
            simp only [World.size_alloc] at this
            omega
        case measure => simp [intOf]; omega
    · obtain rfl : k = 3 := by omega
      have e3 : digsI ([r, g, b].take 3) = (colS (r, g, b)).map (fun (u : UInt8) => ((u.toNat : Nat) : Int)) := rfl
      have CL : (colS (r, g, b)).length = 3 := rfl
      have own := OW.out
      rw [e3] at own
      obtain ⟨gg, rfl, _, _⟩ := owns_slice_at own (by omega)
      obtain ⟨l, hl⟩ : ∃ l, l = colS (r, g, b) := ⟨_, rfl⟩
      rw [← hl] at CL own
      have HL := Lib.hid hl
      clear hl
      have hcv := run_convert_bytes_back (P := Tryz.prog) wr 22 9 5 ⟨gg, 0, none⟩ c1 l Tryz.underlying22 Tryz.underlying5 Tryz.underlying9 (fun j hj => by
        have h := own.cells (g := gg) rfl j (.int .u8 (l[j].toNat : Int)) (by
          have := flat_get (enc := byteC) (sz := 1) (fun _ => rfl) (l.map (fun (u : UInt8) => ((u.toNat : Nat) : Int))) j ((l[j].toNat : Nat) : Int) (by simp [hj]) 0 _ rfl
          simpa using this)
        exact h)
      rw [CL] at hcv
      clear own OW
      go_wp2
      go_ret
      exact ⟨by rw [← HL.out]; rfl, then_ hW1 hw⟩
end Go.Proofs.YthlphmojldbpkaaGreat
/- FmtSym -/
/- FormatSym: the program's, of symmetries. -/
namespace Go.Proofs.YthlphmojldbpkaaGreat
open Go.RowKit
attribute [local go_sem] run_store_float run_store_complex
/-- what is written of a symmetry -/
def symS (g : Int × Bool) : List UInt8 := UInt8.ofNat (48 + g.1.toNat) :: (if g.2 then [102] else [])
theorem symS_len (g : Int × Bool) : (symS g).length ≤ 2 := by
  unfold symS
  split <;> simp
set_option maxRecDepth 100000 in
set_option maxHeartbeats 8000000 in
theorem formatSym_yes (t : Int) (f : Bool) (w : World) (ht : inB t 0 3 = true) :
    Calls Tryz.prog 23 #[.agg #[.int .i64 t, .bool f]] w fun e w' => e = .returned (.string ⟨(symS (t, f)).toArray⟩) ∧ Below w.heap.size w w' := by
  have HT := Lib.hid ht
  obtain ⟨t0, t1⟩ := inB_true ht
  have hc : t = 0 ∨ t = 1 ∨ t = 2 ∨ t = 3 := by omega
  have d0 : ∃ d : UInt8, (d.toNat : Int) = 48 + t ∧ [d] = [UInt8.ofNat (48 + t.toNat)] := by
    rcases hc with rfl | rfl | rfl | rfl
    · exact ⟨48, by decide, by decide⟩
    · exact ⟨49, by decide, by decide⟩
    · exact ⟨50, by decide, by decide⟩
    · exact ⟨51, by decide, by decide⟩
  obtain ⟨d, hd, hl⟩ := d0
  have e1 : IntKind.i64.wrap (48 + t) = 48 + t := by rw [IntKind.wrap_i64]; omega
  have e2 : IntKind.u8.wrap (48 + t) = 48 + t := by rcases hc with rfl | rfl | rfl | rfl <;> decide
  have HL := Lib.hid hl
  clear ht hc t0 t1 hl
  go_enter Tryz.func23, Tryz.ntmps23
  go_wp2_with fail
  (with_reducible refine (isSym_any t f _).mono ?_)
  rw [HT.out]
  rintro e w1 ⟨rfl, hb1⟩
  have kc_0 := keepC (p := ⟨w.heap.size, 0, none⟩) (v := .int .i64 t) (by first | assumption | (simp [go_sem]; done) | (simp [go_sem, *]; done)) hb1; have kc_1 := keepC (p := ⟨w.heap.size, 1, none⟩) (v := .bool f) (by first | assumption | (simp [go_sem]; done) | (simp [go_sem, *]; done)) hb1; have lb_ := (show w.heap.size < _ from World.block_lt_of_cell? _ _ kc_0)
  have hW1 : Below w.heap.size w w1 := by (repeat (first | with_reducible assumption | exact Below.refl _ _ | (refine Below.setCell ?_ (by first | exact Nat.le_refl _ | (simp; done) | omega | (simp; omega)) _) | (refine below_drewN ?_ _) | (refine Below.drew ?_) | (refine Below.alloc ?_ (by first | exact Nat.le_refl _ | (simp; done) | omega | (simp; omega)) _) | (refine then_ ?_ (by with_reducible assumption)) | assumption | (refine then_ ?_ (by assumption))))
  clear hb1
  have hcv := run_convert_bytes_back (P := Tryz.prog) (w1.alloc (Obj.cells #[.int .u8 (48 + t)] 5)) 22 9 5 ⟨w1.heap.size, 0, none⟩ 1 [d] Tryz.underlying22 Tryz.underlying5 Tryz.underlying9 (fun j hj => by
    have hj0 : j = 0 := by simpa using hj
    subst hj0
    simp [go_sem, Addr.add, hd])
  have hcv' : (convert 22 9 (.slice (some ⟨w1.heap.size, 0, none⟩) 1 1)).run Tryz.prog (w1.alloc (Obj.cells #[.int .u8 (48 + t)] 5)) = .ok (.string ⟨#[d]⟩) (w1.alloc (Obj.cells #[.int .u8 (48 + t)] 5)) := hcv
  have hsa := fun wx => strAdd (P := Tryz.prog) [d] [102] (by simp) (by simp) wx
  simp only [List.cons_append, List.nil_append] at hsa
  clear hcv
  cases f
  · go_wp2
    go_ret
    exact ⟨by rw [show symS (t, false) = [d] from HL.out.symm]; rfl, by (repeat (first | with_reducible assumption | exact Below.refl _ _ | (refine Below.setCell ?_ (by first | exact Nat.le_refl _ | (simp; done) | omega | (simp; omega)) _) | (refine below_drewN ?_ _) | (refine Below.drew ?_) | (refine Below.alloc ?_ (by first | exact Nat.le_refl _ | (simp; done) | omega | (simp; omega)) _) | (refine then_ ?_ (by with_reducible assumption)) | assumption | (refine then_ ?_ (by assumption))))⟩
  · go_wp2
    go_ret
    exact ⟨by rw [show symS (t, true) = [d, 102] from by unfold symS; rw [show [d, (102 : UInt8)] = [d] ++ [102] from rfl, HL.out]; rfl]; rfl, by (repeat (first | with_reducible assumption | exact Below.refl _ _ | (refine Below.setCell ?_ (by first | exact Nat.le_refl _ | (simp; done) | omega | (simp; omega)) _) | (refine below_drewN ?_ _) | (refine Below.drew ?_) | (refine Below.alloc ?_ (by first | exact Nat.le_refl _ | (simp; done) | omega | (simp; omega)) _) | (refine then_ ?_ (by with_reducible assumption)) | assumption | (refine then_ ?_ (by assumption))))⟩
end Go.Proofs.YthlphmojldbpkaaGreat
/- RunI -/
/- RunShow: the program's, of good shows and events. -/
namespace Go.Proofs.YthlphmojldbpkaaGreat
open Go.RowKit
attribute [local go_sem] run_store_float run_store_complex
/-- the answer's box and the box of the show that has come about -/
structure NS (W0 : World) (y : Nat) (l o : List Value) (W : World) : Prop where
  cx : CA W y l
  fx : FA W y
  co : CA W (W0.heap.size + 1) o
  fo : FA W (W0.heap.size + 1)
  hy : W0.heap.size + 1 < y
  lt : y < W.heap.size
  bel : Below W0.heap.size W0 W
theorem NS.step {W0 W W' : World} {y : Nat} {l o : List Value} (h : NS W0 y l o W) (hb : Below W.heap.size W W') : NS W0 y l o W' :=
  ⟨h.cx.keep hb, h.fx.keep hb h.lt, h.co.keep hb, h.fo.keep hb (by have := h.lt; have := h.hy; omega), h.hy, Nat.lt_of_lt_of_le h.lt hb.size, then_ h.bel hb⟩
theorem NS.put {W0 W : World} {y : Nat} {l o : List Value} (h : NS W0 y l o W) (i : Nat) (u : Value) : NS W0 y (l.set i u) o (W.setCell ⟨y, i, none⟩ u) :=
  ⟨h.cx.put i u, h.fx.set _ _, h.co.other ⟨y, i, none⟩ u (by have := h.hy; show ¬ W0.heap.size + 1 = y; omega), h.fo.set _ _, h.hy, by have := h.lt; simp [World.setCell]; omega, h.bel.setCell (p := ⟨y, i, none⟩) (by have := h.hy; show W0.heap.size ≤ y; omega) u⟩
end Go.Proofs.YthlphmojldbpkaaGreat
/- Replay -/
/- ReplayShow: the program's, of drawn shows. -/
namespace Go.Proofs.YthlphmojldbpkaaGreat
open Go.RowKit
attribute [local go_sem] run_store_float run_store_complex
theorem OwnS.size {w : World} {base : Nat} {s : Shw} {A B L : Option Addr} {c d q : Nat} (_ : OwnS w base s A B L c d q) : True := trivial
theorem OwnS.alloc {w : World} {base : Nat} {s : Shw} {A B L : Option Addr} {c d q : Nat} (h : OwnS w base s A B L c d q) (_ : True) (o : Obj) : OwnS (w.alloc o) base s A B L c d q := h.below (Below.alloc (Below.refl _ _) (Nat.le_refl _) _)
end Go.Proofs.YthlphmojldbpkaaGreat
/- Stand -/
/- standing: where a bead stands; only that it is a short text. -/
namespace Go.Proofs.YthlphmojldbpkaaGreat
open Go.RowKit
attribute [local go_sem] run_store_float run_store_complex
set_option maxRecDepth 100000 in
set_option maxHeartbeats 8000000 in
theorem standing_any (b : Bd) (w : World) (hc : cwP b.1) (hp : pointB b.1.1 b.1.2 = true) :
    Calls Tryz.prog 58 #[.agg #[.complex .f32 b.1.1 b.1.2, .complex .f32 b.2.1 b.2.2]] w fun e w' => ∃ l : List UInt8, l.length ≤ 20 ∧ e = .returned (.string ⟨l.toArray⟩) ∧ Below w.heap.size w w' := by
  have KP := Lib.hid (fun w => foldPoint_any 3 b.1 w)
  obtain ⟨_, _, hin, _, _⟩ := fold_facts (kind := 3) (by decide) (p32_of_cw hc) hp
  obtain ⟨fp, hfp⟩ : ∃ fp, fp = foldP 3 b.1 := ⟨_, rfl⟩
  rw [← hfp] at KP hin
  obtain ⟨⟨zx, zy⟩, ⟨gt, gf⟩, ok⟩ := fp
  dsimp only at hin
  simp only [foldV] at KP
  have kf := fun w => formatSym_yes gt gf w hin
  obtain ⟨sy, hsy⟩ : ∃ sy, sy = symS (gt, gf) := ⟨_, rfl⟩
  have hl : sy.length ≤ 2 := by rw [hsy]; exact symS_len _
  rw [← hsy] at kf
  have KF := Lib.hid kf
  clear kf hsy hfp hin hc hp
  go_enter Tryz.func58, Tryz.ntmps58
  go_wp2_with fail
  (with_reducible refine (KP.out _).mono ?_)
  rintro x w2 ⟨rfl, hb2⟩
  have hW : Below w.heap.size w w2 := by (repeat (first | with_reducible assumption | exact Below.refl _ _ | (refine Below.setCell ?_ (by first | exact Nat.le_refl _ | (simp; done) | omega | (simp; omega)) _) | (refine below_drewN ?_ _) | (refine Below.drew ?_) | (refine Below.alloc ?_ (by first | exact Nat.le_refl _ | (simp; done) | omega | (simp; omega)) _) | (refine then_ ?_ (by with_reducible assumption)) | assumption | (refine then_ ?_ (by assumption))))
  clear hb2 KP
  go_upto_region 2 with fail
  have cg := CA.new w2 #[.int .i64 gt, .bool gf] 58; have fg := FA.new w2 #[.int .i64 gt, .bool gf] 58; replace hW := hW.alloc (hW.size) (Obj.cells #[.int .i64 gt, .bool gf] 58); obtain ⟨V, hVe⟩ : ∃ V, V = w2.alloc (Obj.cells #[.int .i64 gt, .bool gf] 58) := ⟨_, rfl⟩; have zV : V.heap.size = w2.heap.size + 1 := (by rw [hVe]; simp); rw [← hVe] at cg fg hW; rw [← hVe]; clear hVe; have lg := cg.lt
  clear zV
  obtain ⟨z1, e1⟩ : ∃ z, (FloatKind.f32.format.order zx 0 == some .eq) = z := ⟨_, rfl⟩
  obtain ⟨z2, e2⟩ : ∃ z, (FloatKind.f32.format.order zy 0 == some .eq) = z := ⟨_, rfl⟩
  obtain ⟨z3, e3⟩ : ∃ z, (FloatKind.f32.format.order zx zy == some .eq) = z := ⟨_, rfl⟩
  cases z1 <;> cases z2 <;> cases z3
  case true.true.true =>
    have g0 := cg 0 _ rfl; have g1 := cg 1 _ rfl
    go_wp2_with fail
    (with_reducible refine (KF.out _).mono ?_)
    rintro x w4 ⟨rfl, hb4⟩
    have hW4 := then_ hW hb4
    have hsa := fun wx => strAdd (P := Tryz.prog) sy ([32, 109, 105, 100, 100, 108, 101] : List UInt8) (by omega) (by simp) wx
    clear hb4
    go_wp2
    go_ret
    exact ⟨sy ++ ([32, 109, 105, 100, 100, 108, 101] : List UInt8), by simp; omega, rfl, hW4⟩
  case true.true.false =>
    have g0 := cg 0 _ rfl; have g1 := cg 1 _ rfl
    go_wp2_with fail
    (with_reducible refine (KF.out _).mono ?_)
    rintro x w4 ⟨rfl, hb4⟩
    have hW4 := then_ hW hb4
    have hsa := fun wx => strAdd (P := Tryz.prog) sy ([32, 109, 105, 100, 100, 108, 101] : List UInt8) (by omega) (by simp) wx
    clear hb4
    go_wp2
    go_ret
    exact ⟨sy ++ ([32, 109, 105, 100, 100, 108, 101] : List UInt8), by simp; omega, rfl, hW4⟩
  case false.true.true =>
    have g0 := cg 0 _ rfl; have g1 := cg 1 _ rfl
    go_wp2_with fail
    (with_reducible refine (KF.out _).mono ?_)
    rintro x w4 ⟨rfl, hb4⟩
    have hW4 := then_ hW hb4
    have hsa := fun wx => strAdd (P := Tryz.prog) sy ([32, 109, 105, 114, 114, 111, 114] : List UInt8) (by omega) (by simp) wx
    clear hb4
    go_wp2
    go_ret
    exact ⟨sy ++ ([32, 109, 105, 114, 114, 111, 114] : List UInt8), by simp; omega, rfl, hW4⟩
  case false.true.false =>
    have g0 := cg 0 _ rfl; have g1 := cg 1 _ rfl
    go_wp2_with fail
    (with_reducible refine (KF.out _).mono ?_)
    rintro x w4 ⟨rfl, hb4⟩
    have hW4 := then_ hW hb4
    have hsa := fun wx => strAdd (P := Tryz.prog) sy ([32, 109, 105, 114, 114, 111, 114] : List UInt8) (by omega) (by simp) wx
    clear hb4
    go_wp2
    go_ret
    exact ⟨sy ++ ([32, 109, 105, 114, 114, 111, 114] : List UInt8), by simp; omega, rfl, hW4⟩
  case false.false.true =>
    have g0 := cg 0 _ rfl; have g1 := cg 1 _ rfl
    go_wp2_with fail
    (with_reducible refine (KF.out _).mono ?_)
    rintro x w4 ⟨rfl, hb4⟩
    have hW4 := then_ hW hb4
    have hsa := fun wx => strAdd (P := Tryz.prog) sy ([32, 109, 105, 114, 114, 111, 114] : List UInt8) (by omega) (by simp) wx
    clear hb4
    go_wp2
    go_ret
    exact ⟨sy ++ ([32, 109, 105, 114, 114, 111, 114] : List UInt8), by simp; omega, rfl, hW4⟩
  case true.false.true =>
    have g0 := cg 0 _ rfl; have g1 := cg 1 _ rfl
    go_wp2_with fail
    (with_reducible refine (KF.out _).mono ?_)
    rintro x w4 ⟨rfl, hb4⟩
    have hW4 := then_ hW hb4
    have hsa := fun wx => strAdd (P := Tryz.prog) sy ([32, 109, 105, 114, 114, 111, 114] : List UInt8) (by omega) (by simp) wx
    clear hb4
    go_wp2
    go_ret
    exact ⟨sy ++ ([32, 109, 105, 114, 114, 111, 114] : List UInt8), by simp; omega, rfl, hW4⟩
  case false.false.false =>
    have g0 := cg 0 _ rfl; have g1 := cg 1 _ rfl
    go_wp2_with fail
    (with_reducible refine (KF.out _).mono ?_)
    rintro x w4 ⟨rfl, hb4⟩
    have hW4 := then_ hW hb4
    have hsa := fun wx => strAdd (P := Tryz.prog) sy ([32, 105, 110, 115, 105, 100, 101] : List UInt8) (by omega) (by simp) wx
    clear hb4
    go_wp2
    go_ret
    exact ⟨sy ++ ([32, 105, 110, 115, 105, 100, 101] : List UInt8), by simp; omega, rfl, hW4⟩
  case true.false.false =>
    have g0 := cg 0 _ rfl; have g1 := cg 1 _ rfl
    go_wp2_with fail
    (with_reducible refine (KF.out _).mono ?_)
    rintro x w4 ⟨rfl, hb4⟩
    have hW4 := then_ hW hb4
    have hsa := fun wx => strAdd (P := Tryz.prog) sy ([32, 105, 110, 115, 105, 100, 101] : List UInt8) (by omega) (by simp) wx
    clear hb4
    go_wp2
    go_ret
    exact ⟨sy ++ ([32, 105, 110, 115, 105, 100, 101] : List UInt8), by simp; omega, rfl, hW4⟩
end Go.Proofs.YthlphmojldbpkaaGreat
/- CellTo -/
/- The walks of CellTo, both versions. -/
namespace Go.Proofs.YthlphmojldbpkaaGreat
open Go.RowKit
theorem toCell_bd {size : Int} {q : Int × Int} (h1 : 1 ≤ size) (h2 : size ≤ 8) (h : Sm (size - 1) q) : 0 ≤ (size - 1 - q.2) / 2 ∧ (size - 1 - q.2) / 2 ≤ 7 ∧ 0 ≤ (q.1 + size - 1) / 2 ∧ (q.1 + size - 1) / 2 ≤ 7 ∧
    0 ≤ ((size - 1 - q.2) / 2) * size ∧ ((size - 1 - q.2) / 2) * size ≤ 7 * 8 := by
  obtain ⟨a, b, c, d⟩ := h
  refine ⟨by omega, by omega, by omega, by omega, Int.mul_nonneg (by omega) (by omega), Int.mul_le_mul (by omega) h2 (by omega) (by omega)⟩
theorem placeOf_no (size cell : Int) (w : World) (h : okCell size cell = false) :
    Calls Tryz.prog 83 #[.int .i64 size, .int .i64 cell] w fun e w' => e = .returned (.tuple #[.complex .f32 0 0, .bool false]) ∧ Dr w w' :=
  (placeOf_any size cell w).mono fun e w' ⟨he, hd⟩ => ⟨by rw [he]; unfold placeV; rw [h]; rfl, hd⟩
set_option maxRecDepth 10000 in
set_option maxHeartbeats 1000000 in
theorem cellTo_any (size cell t : Int) (f : Bool) (w : World) :
    Calls Tryz.prog 86 #[.int .i64 size, .int .i64 cell, .agg #[.int .i64 t, .bool f]] w fun e w' => e = .returned (.int .i64 (cellV size cell t f)) ∧ Below w.heap.size w w' := by
  have r : cellV size cell t f = if okCell size cell && inB t 0 3 then cellI size cell t f else -1 := rfl
  cases hk : okCell size cell
  · rw [hk] at r
    have R := Lib.hid r
    have K := Lib.hid hk
    clear r hk
    go_enter Tryz.func86, Tryz.ntmps86
    go_wp2_with (go_at_call 83; refine (placeOf_no _ _ _ K.out).mono ?_; rintro e w' ⟨rfl, n, rfl⟩)
    go_ret
    exact ⟨by rw [R.out]; rfl, by (repeat (first | with_reducible assumption | exact Below.refl _ _ | (refine Below.setCell ?_ (by first | exact Nat.le_refl _ | (simp; done) | omega | (simp; omega)) _) | (refine below_drewN ?_ _) | (refine Below.drew ?_) | (refine Below.alloc ?_ (by first | exact Nat.le_refl _ | (simp; done) | omega | (simp; omega)) _) | (refine then_ ?_ (by with_reducible assumption)) | assumption | (refine then_ ?_ (by assumption))))⟩
  · cases ht : inB t 0 3
    · rw [hk, ht] at r
      have R := Lib.hid r
      have K := Lib.hid hk
      clear r hk
      go_enter Tryz.func86, Tryz.ntmps86
      go_wp2_with (first
        | (go_at_call 83; refine (placeOf_ok _ _ _ K.out).mono ?_; rintro e w' ⟨rfl, n, rfl⟩)
        | (go_at_call 59; refine (isSym_any _ _ _).mono ?_; rintro e w1 ⟨rfl, hb1⟩; simp only [ht]; obtain ⟨hc1, hf1⟩ := bcell hb1))
      go_ret
      exact ⟨by rw [R.out]; rfl, by (repeat (first | with_reducible assumption | exact Below.refl _ _ | (refine Below.setCell ?_ (by first | exact Nat.le_refl _ | (simp; done) | omega | (simp; omega)) _) | (refine below_drewN ?_ _) | (refine Below.drew ?_) | (refine Below.alloc ?_ (by first | exact Nat.le_refl _ | (simp; done) | omega | (simp; omega)) _) | (refine then_ ?_ (by with_reducible assumption)) | assumption | (refine then_ ?_ (by assumption))))⟩
    · rw [hk, ht] at r
      have hp := point_small ((ptI_sm hk).mono (c := 8) (by have := okCell_bd hk; omega))
      have hr := actI_small ((ptI_sm hk).mono (c := 8) (by have := okCell_bd hk; omega)) t f
      have hs := aI_sm (ptI_sm hk) t f
      obtain ⟨h1, h2, h3, h4, h5, h6⟩ := okCell_bd hk
      obtain ⟨b1, b2, b3, b4, b5, b6⟩ := toCell_bd h1 h2 hs
      have hq : cellV size cell t f = toCell size (aI t f (ptI size cell)) := r
      clear r
      generalize aI t f (ptI size cell) = q at *
      obtain ⟨x, y⟩ := q
      have R := Lib.hid (show cellV size cell t f = (size - 1 - y) / 2 * size + (x + size - 1) / 2 from hq)
      have A := Lib.hid hr
      have K := Lib.hid hk
      have H := Lib.hid h4
      obtain ⟨a, b, c, d⟩ := hs
      dsimp only at a b c d b1 b2 b3 b4 b5 b6
      clear hq hr hk h4 h6
      have k1 := fun wx => run_convert_float_int (P := Tryz.prog) wx 24 3 .f32 .i64 (fl x) x (by kernel_rfl) Tryz.underlying3 (small_at x (by omega) (by omega)).2.2.2.2
      have k2 := fun wx => run_convert_float_int (P := Tryz.prog) wx 24 3 .f32 .i64 (fl y) y (by kernel_rfl) Tryz.underlying3 (small_at y (by omega) (by omega)).2.2.2.2
      go_enter Tryz.func86, Tryz.ntmps86
      go_wp2_with (first
        | (go_at_call 83; refine (placeOf_ok _ _ _ K.out).mono ?_; rintro e w' ⟨rfl, n, rfl⟩)
        | (go_at_call 59; refine (isSym_any _ _ _).mono ?_; rintro e w1 ⟨rfl, hb1⟩; simp only [ht]; obtain ⟨hc1, hf1⟩ := bcell hb1)
        | (go_at_call 45; refine (actSym_ok _ _ _ _ _ ht hp).mono ?_; rintro e w2 ⟨rfl, hb2⟩; rw [A.out]; simp only [cxV, flP]))
      go_ret
      exact ⟨by rw [R.out]; rfl, by (repeat (first | with_reducible assumption | exact Below.refl _ _ | (refine Below.setCell ?_ (by first | exact Nat.le_refl _ | (simp; done) | omega | (simp; omega)) _) | (refine below_drewN ?_ _) | (refine Below.drew ?_) | (refine Below.alloc ?_ (by first | exact Nat.le_refl _ | (simp; done) | omega | (simp; omega)) _) | (refine then_ ?_ (by with_reducible assumption)) | assumption | (refine then_ ?_ (by assumption))))⟩
end Go.Proofs.YthlphmojldbpkaaGreat
/- IsPic -/
/- IsPicture, both versions. -/
namespace Go.Proofs.YthlphmojldbpkaaGreat
open Go.RowKit
set_option maxHeartbeats 1000000 in
theorem isPicF_any (r g b : Nat) (w : World) :
    Calls Tryz.prog 51 #[.agg #[.float .f32 r, .float .f32 g, .float .f32 b]] w fun e w' => e = .returned (.bool (!colB (r, g, b))) ∧ Below w.heap.size w w' := by
  go_enter Tryz.func51, Tryz.ntmps51
  go_wp2_with (go_at_call 52; refine (isColour_any _ _ _ _).mono ?_; rintro e w' ⟨rfl, hb1⟩)
  go_ret
  exact ⟨rfl, by (repeat (first | with_reducible assumption | exact Below.refl _ _ | (refine Below.setCell ?_ (by first | exact Nat.le_refl _ | (simp; done) | omega | (simp; omega)) _) | (refine below_drewN ?_ _) | (refine Below.drew ?_) | (refine Below.alloc ?_ (by first | exact Nat.le_refl _ | (simp; done) | omega | (simp; omega)) _) | (refine then_ ?_ (by with_reducible assumption)) | assumption | (refine then_ ?_ (by assumption))))⟩
theorem all_no {xs : List Col} {i : Nat} {x : Col} (hx : xs[i]? = some x) (h : colB x = false) : xs.all colB = false := by
  rw [List.all_eq_false]
  exact ⟨x, List.mem_of_getElem? hx, by simp [h]⟩
set_option maxHeartbeats 1000000 in
theorem indexCol_any (A : Option Addr) (n c : Nat) (xs : List Col) (w : World) (hn : n ≤ maxLen) (ha : Rd colC 3 w w.heap.size A n xs) :
    Calls Tryz.prog 94 #[.slice A n c, .func (.func 51) #[] #[]] w fun e w' => (∃ i : Int, e = .returned (.int .i64 i) ∧ decide (0 ≤ i) = !(xs.all colB)) ∧ Below w.heap.size w w' := by
  unfold maxLen at hn
  go_enter Tryz.func94, Tryz.ntmps94
  go_wp2
  go_loopw [5, 8] (fun _ i wr => ∃ k : Nat, k ≤ n ∧ i = .int .i64 k ∧ (∀ (i : Nat) x, i < k → xs[i]? = some x → colB x = true) ∧ Below w.heap.size w wr) (fun _ i _ => n - (intOf i).toNat)
  case atStart => exact ⟨0, Nat.zero_le _, rfl, fun i x h => by omega, Below.refl _ _⟩
  case round =>
    obtain ⟨k, hk, rfl, hall, hw⟩ := hrel
    have HALL := Lib.hid hall
    clear hall
    by_cases hlt : k < n
    · obtain ⟨b, off, r, g, l, rfl, hbl, hx, h0, h1, h2⟩ := (ha.below hw).col hlt
      have hki : (k : Int) < (n : Int) := by omega
      have hk0 : (0 : Int) ≤ (k : Int) := by omega
      have HX := Lib.hid hx
      clear hx
      cases hq : colB (r, g, l)
      · go_wp2_with (go_at_call 51; refine (isPicF_any _ _ _ _).mono ?_; rintro e w1 ⟨rfl, hb1⟩; simp only [hq])
        go_ret
        exact ⟨⟨_, rfl, by rw [all_no HX.out hq]; simp⟩, by (repeat (first | with_reducible assumption | exact Below.refl _ _ | (refine Below.setCell ?_ (by first | exact Nat.le_refl _ | (simp; done) | omega | (simp; omega)) _) | (refine below_drewN ?_ _) | (refine Below.drew ?_) | (refine Below.alloc ?_ (by first | exact Nat.le_refl _ | (simp; done) | omega | (simp; omega)) _) | (refine then_ ?_ (by with_reducible assumption)) | assumption | (refine then_ ?_ (by assumption))))⟩
      · go_wp2_with (go_at_call 51; refine (isPicF_any _ _ _ _).mono ?_; rintro e w1 ⟨rfl, hb1⟩; simp only [hq])
        go_roundw
        case rel =>
          refine ⟨k + 1, by omega, by go_num, fun i x hi j1 => ?_, by (repeat (first | with_reducible assumption | exact Below.refl _ _ | (refine Below.setCell ?_ (by first | exact Nat.le_refl _ | (simp; done) | omega | (simp; omega)) _) | (refine below_drewN ?_ _) | (refine Below.drew ?_) | (refine Below.alloc ?_ (by first | exact Nat.le_refl _ | (simp; done) | omega | (simp; omega)) _) | (refine then_ ?_ (by with_reducible assumption)) | assumption | (refine then_ ?_ (by assumption))))⟩
          by_cases e : i = k
          · subst e
            rw [HX.out] at j1
            injection j1 with j1
            subst j1
            exact hq
          · exact HALL.out i x (by omega) j1
        case measure => simp [intOf]; omega
    · obtain rfl : k = n := by omega
      have hs : xs.all colB = true := all_yes (fun i x h1 => HALL.out i x (by have := (List.getElem?_eq_some_iff.1 h1).1; have := ha.1; omega) h1)
      go_wp2
      go_ret
      exact ⟨⟨-1, rfl, by rw [hs]; rfl⟩, hw⟩
theorem containsCol_any (A : Option Addr) (n c : Nat) (xs : List Col) (w : World) (hn : n ≤ maxLen) (ha : Rd colC 3 w w.heap.size A n xs) :
    Calls Tryz.prog 50 #[.slice A n c, .func (.func 51) #[] #[]] w fun e w' => e = .returned (.bool (!(xs.all colB))) ∧ Below w.heap.size w w' := by
  go_enter Tryz.func50, Tryz.ntmps50
  go_wp2_with (go_at_call 94; refine (indexCol_any _ _ _ xs _ hn ha).mono ?_; rintro e w1 ⟨⟨i, rfl, hi⟩, hb1⟩; have HI := Lib.hid hi; clear hi)
  go_ret
  exact ⟨by rw [← HI.out]; rfl, hb1⟩
set_option maxHeartbeats 1000000 in
theorem isPicture_any (s : Int) (A : Option Addr) (n c : Nat) (xs : List Col) (w : World) (hn : n ≤ maxLen) (ha : Rd colC 3 w w.heap.size A n xs) :
    Calls Tryz.prog 18 #[.agg #[.int .i64 s, .slice A n c]] w fun e w' => e = .returned (.bool (pictB s xs)) ∧ Below w.heap.size w w' := by
  have r : pictB s xs = (inB s 1 8 && (((xs.length : Int) == s * s) && xs.all colB)) := rfl
  rw [ha.1] at r
  cases h1 : inB s 1 8
  · rw [h1, Bool.false_and] at r
    have R := Lib.hid r
    clear r
    go_enter Tryz.func18, Tryz.ntmps18
    go_wp2_with (go_at_call 49; refine (within_any _ _ _ _).mono ?_; rintro e w' ⟨rfl, rfl⟩; simp only [h1])
    go_ret
    exact ⟨by rw [R.out]; rfl, by (repeat (first | with_reducible assumption | exact Below.refl _ _ | (refine Below.setCell ?_ (by first | exact Nat.le_refl _ | (simp; done) | omega | (simp; omega)) _) | (refine below_drewN ?_ _) | (refine Below.drew ?_) | (refine Below.alloc ?_ (by first | exact Nat.le_refl _ | (simp; done) | omega | (simp; omega)) _) | (refine then_ ?_ (by with_reducible assumption)) | assumption | (refine then_ ?_ (by assumption))))⟩
  · obtain ⟨b1, b2⟩ := inB_true h1
    have b3 : s * s ≤ 8 * 8 := Int.mul_le_mul b2 b2 (by omega) (by omega)
    have b4 : 1 * 1 ≤ s * s := Int.mul_le_mul b1 b1 (by omega) (by omega)
    rw [h1, Bool.true_and] at r
    cases h2 : ((n : Int) == s * s)
    · rw [h2, Bool.false_and] at r
      have R := Lib.hid r
      clear r
      go_enter Tryz.func18, Tryz.ntmps18
      go_wp2_with (go_at_call 49; refine (within_any _ _ _ _).mono ?_; rintro e w' ⟨rfl, rfl⟩; simp only [h1])
      go_ret
      exact ⟨by rw [R.out]; rfl, by (repeat (first | with_reducible assumption | exact Below.refl _ _ | (refine Below.setCell ?_ (by first | exact Nat.le_refl _ | (simp; done) | omega | (simp; omega)) _) | (refine below_drewN ?_ _) | (refine Below.drew ?_) | (refine Below.alloc ?_ (by first | exact Nat.le_refl _ | (simp; done) | omega | (simp; omega)) _) | (refine then_ ?_ (by with_reducible assumption)) | assumption | (refine then_ ?_ (by assumption))))⟩
    · rw [h2, Bool.true_and] at r
      have R := Lib.hid r
      clear r
      go_enter Tryz.func18, Tryz.ntmps18
      go_wp2_with (first
        | (go_at_call 49; refine (within_any _ _ _ _).mono ?_; rintro e w' ⟨rfl, rfl⟩; simp only [h1])
        | (go_at_call 50; refine (containsCol_any _ _ _ xs _ hn (ha.step ?_)).mono ?_; (repeat (first | with_reducible assumption | exact Below.refl _ _ | (refine Below.setCell ?_ (by first | exact Nat.le_refl _ | (simp; done) | omega | (simp; omega)) _) | (refine below_drewN ?_ _) | (refine Below.drew ?_) | (refine Below.alloc ?_ (by first | exact Nat.le_refl _ | (simp; done) | omega | (simp; omega)) _) | (refine then_ ?_ (by with_reducible assumption)) | assumption | (refine then_ ?_ (by assumption)))); rintro e w1 ⟨rfl, hb1⟩))
      go_ret
      exact ⟨by rw [R.out]; simp, by (repeat (first | with_reducible assumption | exact Below.refl _ _ | (refine Below.setCell ?_ (by first | exact Nat.le_refl _ | (simp; done) | omega | (simp; omega)) _) | (refine below_drewN ?_ _) | (refine Below.drew ?_) | (refine Below.alloc ?_ (by first | exact Nat.le_refl _ | (simp; done) | omega | (simp; omega)) _) | (refine then_ ?_ (by with_reducible assumption)) | assumption | (refine then_ ?_ (by assumption))))⟩
attribute [local go_sem] run_store_float run_store_complex
end Go.Proofs.YthlphmojldbpkaaGreat
/- Act -/
/- ActPicture, both versions. -/
namespace Go.Proofs.YthlphmojldbpkaaGreat
open Go.RowKit
attribute [local go_sem] run_store_float run_store_complex
theorem flat_set {ys : List Col} : ∀ {i : Nat}, i < ys.length → ∀ (r g l : Nat), flat colC (ys.set i (r, g, l)) = (((flat colC ys).set (i * 3) (.float .f32 r)).set (i * 3 + 1) (.float .f32 g)).set (i * 3 + 2) (.float .f32 l) := by
  induction ys with
  | nil => intro i h; simp at h
  | cons y ys ih =>
    intro i h r g l
    obtain ⟨a, b, c⟩ := y
    cases i with
    | zero => rfl
    | succ i =>
      have h' : i < ys.length := by simpa using h
      rw [List.set_cons_succ, flat_cons, flat_cons, ih h' r g l]
      rw [show (i + 1) * 3 = i * 3 + 1 + 1 + 1 from by omega]
      rfl
theorem flat_replicate (n : Nat) : (madeCells #[.float .f32 0, .float .f32 0, .float .f32 0] (n * 3)).toList = flat colC (List.replicate n (0, 0, 0)) := by
  apply List.ext_getElem?
  intro j
  by_cases hj : j < n * 3
  · have hk : j / 3 < n := by omega
    have hx : (List.replicate n ((0, 0, 0) : Col))[j / 3]? = some (0, 0, 0) := by simp [hk]
    have hm : j % 3 < 3 := Nat.mod_lt _ (by omega)
    have hu : (colC (0, 0, 0))[j % 3]? = some (.float .f32 0) := by
      generalize j % 3 = q at hm
      match q, hm with
      | 0, _ => rfl
      | 1, _ => rfl
      | 2, _ => rfl
    have := flat_get colC_len _ _ _ hx _ _ hu
    rw [show j / 3 * 3 + j % 3 = j from by omega] at this
    rw [this]
    have hr : (Array.range (n * 3))[j]? = some j := by simp [hj]
    rw [madeCells, Array.getElem?_toList, Array.getElem?_map, hr]
    show some (#[Value.float FloatKind.f32 0, .float .f32 0, .float .f32 0][j % 3]!) = _
    generalize j % 3 = q at hm
    match q, hm with
    | 0, _ => rfl
    | 1, _ => rfl
    | 2, _ => rfl
  · rw [List.getElem?_eq_none (by simp [madeCells]; omega), List.getElem?_eq_none (by rw [flat_length colC_len, List.length_replicate]; omega)]
theorem pict_bd {s : Int} {xs : List Col} (h : pictB s xs = true) : xs.length ≤ 64 ∧ 1 ≤ s ∧ s ≤ 8 ∧ (xs.length : Int) = s * s := by
  unfold pictB at h
  simp only [Bool.and_eq_true, beq_iff_eq] at h
  obtain ⟨h1, h2, h3⟩ := h
  obtain ⟨b1, b2⟩ := inB_true h1
  have b3 : s * s ≤ 8 * 8 := Int.mul_le_mul b2 b2 (by omega) (by omega)
  exact ⟨by omega, b1, b2, h2⟩
theorem keepSet {w W : World} {gs B : Nat} (h : ∀ b o, b < B → ¬ b = gs → w.cell? ⟨b, o, none⟩ = W.cell? ⟨b, o, none⟩) (j : Nat) (u : Value) : ∀ b o, b < B → ¬ b = gs → (w.setCell ⟨gs, j, none⟩ u).cell? ⟨b, o, none⟩ = W.cell? ⟨b, o, none⟩ :=
  fun b o hb hn => (World.cell?_setCell_other w ⟨gs, j, none⟩ ⟨b, o, none⟩ u (fun e => hn (by injection e with e1; exact e1.symm))).trans (h b o hb hn)
theorem own_zero {base n : Nat} (W : World) (hb : base ≤ W.heap.size) (hn : n ≤ maxLen) :
    (W.alloc (.cells (madeCells #[.float .f32 0, .float .f32 0, .float .f32 0] (n * 3)) 26)).ownsRow base 26 3 (.slice (some ⟨W.heap.size, 0, none⟩) n n) n (flat colC (List.replicate n (0, 0, 0))) := by
  rw [← flat_replicate]
  exact World.ownsRow_lit W _ n hb hn (by simp [madeCells])
set_option maxRecDepth 100000 in
set_option maxHeartbeats 8000000 in
theorem actPicture_any (t : Int) (f : Bool) (s : Int) (A : Option Addr) (n c : Nat) (xs : List Col) (w : World) (hn : n ≤ maxLen) (ha : Rd colC 3 w w.heap.size A n xs) :
    Calls Tryz.prog 55 #[.agg #[.int .i64 t, .bool f], .agg #[.int .i64 s, .slice A n c]] w fun e w' => ∃ B d, e = .returned (.agg #[.int .i64 (actL t f s xs).1, .slice B (actL t f s xs).2.length d]) ∧ w'.ownsRow w.heap.size 26 3 (.slice B (actL t f s xs).2.length d) (actL t f s xs).2.length (flat colC (actL t f s xs).2) ∧ Below w.heap.size w w' := by
  cases h1 : inB t 0 3
  · have R := Lib.hid (show actL t f s xs = (0, []) by simp [actL, h1])
    go_enter Tryz.func55, Tryz.ntmps55
    go_wp2_with (go_at_call 59; refine (isSym_any _ _ _).mono ?_; rintro e w1 ⟨rfl, hb1⟩; simp only [h1]; have kf11_0 := keepF (p := ⟨w.heap.size + 1 + 1, 0, none⟩) (v := .int .i64 0) (by first | assumption | (simp [go_sem]; done) | (simp [go_sem, *]; done)) (by first | assumption | (simp [go_sem]; done) | (simp [go_sem, *]; done)) hb1; have kf11_1 := keepF (p := ⟨w.heap.size + 1 + 1, 1, none⟩) (v := .slice none 0 0) (by first | assumption | (simp [go_sem]; done) | (simp [go_sem, *]; done)) (by first | assumption | (simp [go_sem]; done) | (simp [go_sem, *]; done)) hb1; have kc11_0 := keepC (p := ⟨w.heap.size + 1 + 1, 0, none⟩) (v := .int .i64 0) (by first | assumption | (simp [go_sem]; done) | (simp [go_sem, *]; done)) hb1; have kc11_1 := keepC (p := ⟨w.heap.size + 1 + 1, 1, none⟩) (v := .slice none 0 0) (by first | assumption | (simp [go_sem]; done) | (simp [go_sem, *]; done)) hb1; have lb11_ := (show w.heap.size + 1 + 1 < _ from World.block_lt_of_cell? _ _ kc11_0))
    exact bodyPost_ret (v := .agg #[.int .i64 0, .slice none 0 0]) (by simp [results, Tryz.results55, go_sem, *]) rfl ⟨none, 0, by rw [R.out]; rfl, by rw [R.out]; exact ⟨rfl, .inl ⟨rfl, rfl⟩⟩, by (repeat (first | with_reducible assumption | exact Below.refl _ _ | (refine Below.setCell ?_ (by first | exact Nat.le_refl _ | (simp; done) | omega | (simp; omega)) _) | (refine below_drewN ?_ _) | (refine Below.drew ?_) | (refine Below.alloc ?_ (by first | exact Nat.le_refl _ | (simp; done) | omega | (simp; omega)) _) | (refine then_ ?_ (by with_reducible assumption)) | assumption | (refine then_ ?_ (by assumption))))⟩
  · cases h2 : pictB s xs
    · have R := Lib.hid (show actL t f s xs = (0, []) by simp [actL, h2])
      go_enter Tryz.func55, Tryz.ntmps55
      go_wp2_with (first
        | (go_at_call 59; refine (isSym_any _ _ _).mono ?_; rintro e w1 ⟨rfl, hb1⟩; simp only [h1]; have kc1_0 := keepC (p := ⟨w.heap.size + 1, 0, none⟩) (v := .int .i64 s) (by first | assumption | (simp [go_sem]; done) | (simp [go_sem, *]; done)) hb1; have kc1_1 := keepC (p := ⟨w.heap.size + 1, 1, none⟩) (v := .slice A n c) (by first | assumption | (simp [go_sem]; done) | (simp [go_sem, *]; done)) hb1; have lb1_ := (show w.heap.size + 1 < _ from World.block_lt_of_cell? _ _ kc1_0); have kf11_0 := keepF (p := ⟨w.heap.size + 1 + 1, 0, none⟩) (v := .int .i64 0) (by first | assumption | (simp [go_sem]; done) | (simp [go_sem, *]; done)) (by first | assumption | (simp [go_sem]; done) | (simp [go_sem, *]; done)) hb1; have kf11_1 := keepF (p := ⟨w.heap.size + 1 + 1, 1, none⟩) (v := .slice none 0 0) (by first | assumption | (simp [go_sem]; done) | (simp [go_sem, *]; done)) (by first | assumption | (simp [go_sem]; done) | (simp [go_sem, *]; done)) hb1; have kc11_0 := keepC (p := ⟨w.heap.size + 1 + 1, 0, none⟩) (v := .int .i64 0) (by first | assumption | (simp [go_sem]; done) | (simp [go_sem, *]; done)) hb1; have kc11_1 := keepC (p := ⟨w.heap.size + 1 + 1, 1, none⟩) (v := .slice none 0 0) (by first | assumption | (simp [go_sem]; done) | (simp [go_sem, *]; done)) hb1; have lb11_ := (show w.heap.size + 1 + 1 < _ from World.block_lt_of_cell? _ _ kc11_0))
        | (go_at_call 18; refine (isPicture_any s A n c xs _ hn (ha.step ?_)).mono ?_; (repeat (first | with_reducible assumption | exact Below.refl _ _ | (refine Below.setCell ?_ (by first | exact Nat.le_refl _ | (simp; done) | omega | (simp; omega)) _) | (refine below_drewN ?_ _) | (refine Below.drew ?_) | (refine Below.alloc ?_ (by first | exact Nat.le_refl _ | (simp; done) | omega | (simp; omega)) _) | (refine then_ ?_ (by with_reducible assumption)) | assumption | (refine then_ ?_ (by assumption)))); rintro e w2 ⟨rfl, hb2⟩; simp only [h2]; have kf11_0 := keepF (p := ⟨w.heap.size + 1 + 1, 0, none⟩) (v := .int .i64 0) (by first | assumption | (simp [go_sem]; done) | (simp [go_sem, *]; done)) (by first | assumption | (simp [go_sem]; done) | (simp [go_sem, *]; done)) hb2; have kf11_1 := keepF (p := ⟨w.heap.size + 1 + 1, 1, none⟩) (v := .slice none 0 0) (by first | assumption | (simp [go_sem]; done) | (simp [go_sem, *]; done)) (by first | assumption | (simp [go_sem]; done) | (simp [go_sem, *]; done)) hb2; have kc11_0 := keepC (p := ⟨w.heap.size + 1 + 1, 0, none⟩) (v := .int .i64 0) (by first | assumption | (simp [go_sem]; done) | (simp [go_sem, *]; done)) hb2; have kc11_1 := keepC (p := ⟨w.heap.size + 1 + 1, 1, none⟩) (v := .slice none 0 0) (by first | assumption | (simp [go_sem]; done) | (simp [go_sem, *]; done)) hb2; have lb11_ := (show w.heap.size + 1 + 1 < _ from World.block_lt_of_cell? _ _ kc11_0)))
      exact bodyPost_ret (v := .agg #[.int .i64 0, .slice none 0 0]) (by simp [results, Tryz.results55, go_sem, *]) rfl ⟨none, 0, by rw [R.out]; rfl, by rw [R.out]; exact ⟨rfl, .inl ⟨rfl, rfl⟩⟩, by (repeat (first | with_reducible assumption | exact Below.refl _ _ | (refine Below.setCell ?_ (by first | exact Nat.le_refl _ | (simp; done) | omega | (simp; omega)) _) | (refine below_drewN ?_ _) | (refine Below.drew ?_) | (refine Below.alloc ?_ (by first | exact Nat.le_refl _ | (simp; done) | omega | (simp; omega)) _) | (refine then_ ?_ (by with_reducible assumption)) | assumption | (refine then_ ?_ (by assumption))))⟩
    · have hl := pict_bd h2
      have hn64 : n ≤ 64 := by have := ha.1; omega
      have hss : s * s = (n : Int) := by have := ha.1; have := hl.2.2.2; omega
      have R := Lib.hid (show actL t f s xs = (s, actUp s t f xs n) by simp [actL, h1, h2, ha.1])
      have HL := Lib.hid ha.1
      obtain ⟨hl1, hl2, hl3, hl4⟩ := hl
      have SS := Lib.hid hss
      clear hl4 hss
      obtain ⟨i0, hi, hz0, hz1, hz2⟩ := info_parts infoCol
      have hmk := fun wx => run_make (P := Tryz.prog) wx 45 26 i0 _ Tryz.underlying45 hi hz0 .i64 .i64 n n (by omega) (Int.le_refl _) (by rw [hz2]; omega) (by omega)
      simp only [Int.toNat_natCast, hz1] at hmk
      go_enter Tryz.func55, Tryz.ntmps55
      go_wp2_with (first
        | (go_at_call 59; refine (isSym_any _ _ _).mono ?_; rintro e w1 ⟨rfl, hb1⟩; simp only [h1]; have kc_0 := keepC (p := ⟨w.heap.size, 0, none⟩) (v := .int .i64 t) (by first | assumption | (simp [go_sem]; done) | (simp [go_sem, *]; done)) hb1; have kc_1 := keepC (p := ⟨w.heap.size, 1, none⟩) (v := .bool f) (by first | assumption | (simp [go_sem]; done) | (simp [go_sem, *]; done)) hb1; have lb_ := (show w.heap.size < _ from World.block_lt_of_cell? _ _ kc_0); have kc1_0 := keepC (p := ⟨w.heap.size + 1, 0, none⟩) (v := .int .i64 s) (by first | assumption | (simp [go_sem]; done) | (simp [go_sem, *]; done)) hb1; have kc1_1 := keepC (p := ⟨w.heap.size + 1, 1, none⟩) (v := .slice A n c) (by first | assumption | (simp [go_sem]; done) | (simp [go_sem, *]; done)) hb1; have lb1_ := (show w.heap.size + 1 < _ from World.block_lt_of_cell? _ _ kc1_0); have kf11_0 := keepF (p := ⟨w.heap.size + 1 + 1, 0, none⟩) (v := .int .i64 0) (by first | assumption | (simp [go_sem]; done) | (simp [go_sem, *]; done)) (by first | assumption | (simp [go_sem]; done) | (simp [go_sem, *]; done)) hb1; have kf11_1 := keepF (p := ⟨w.heap.size + 1 + 1, 1, none⟩) (v := .slice none 0 0) (by first | assumption | (simp [go_sem]; done) | (simp [go_sem, *]; done)) (by first | assumption | (simp [go_sem]; done) | (simp [go_sem, *]; done)) hb1; have kc11_0 := keepC (p := ⟨w.heap.size + 1 + 1, 0, none⟩) (v := .int .i64 0) (by first | assumption | (simp [go_sem]; done) | (simp [go_sem, *]; done)) hb1; have kc11_1 := keepC (p := ⟨w.heap.size + 1 + 1, 1, none⟩) (v := .slice none 0 0) (by first | assumption | (simp [go_sem]; done) | (simp [go_sem, *]; done)) hb1; have lb11_ := (show w.heap.size + 1 + 1 < _ from World.block_lt_of_cell? _ _ kc11_0))
        | (go_at_call 18; refine (isPicture_any s A n c xs _ hn (ha.step ?_)).mono ?_; (repeat (first | with_reducible assumption | exact Below.refl _ _ | (refine Below.setCell ?_ (by first | exact Nat.le_refl _ | (simp; done) | omega | (simp; omega)) _) | (refine below_drewN ?_ _) | (refine Below.drew ?_) | (refine Below.alloc ?_ (by first | exact Nat.le_refl _ | (simp; done) | omega | (simp; omega)) _) | (refine then_ ?_ (by with_reducible assumption)) | assumption | (refine then_ ?_ (by assumption)))); rintro e w2 ⟨rfl, hb2⟩; simp only [h2]; have kc_0 := keepC (p := ⟨w.heap.size, 0, none⟩) (v := .int .i64 t) (by first | assumption | (simp [go_sem]; done) | (simp [go_sem, *]; done)) hb2; have kc_1 := keepC (p := ⟨w.heap.size, 1, none⟩) (v := .bool f) (by first | assumption | (simp [go_sem]; done) | (simp [go_sem, *]; done)) hb2; have lb_ := (show w.heap.size < _ from World.block_lt_of_cell? _ _ kc_0); have kc1_0 := keepC (p := ⟨w.heap.size + 1, 0, none⟩) (v := .int .i64 s) (by first | assumption | (simp [go_sem]; done) | (simp [go_sem, *]; done)) hb2; have kc1_1 := keepC (p := ⟨w.heap.size + 1, 1, none⟩) (v := .slice A n c) (by first | assumption | (simp [go_sem]; done) | (simp [go_sem, *]; done)) hb2; have lb1_ := (show w.heap.size + 1 < _ from World.block_lt_of_cell? _ _ kc1_0); have kf11_0 := keepF (p := ⟨w.heap.size + 1 + 1, 0, none⟩) (v := .int .i64 0) (by first | assumption | (simp [go_sem]; done) | (simp [go_sem, *]; done)) (by first | assumption | (simp [go_sem]; done) | (simp [go_sem, *]; done)) hb2; have kf11_1 := keepF (p := ⟨w.heap.size + 1 + 1, 1, none⟩) (v := .slice none 0 0) (by first | assumption | (simp [go_sem]; done) | (simp [go_sem, *]; done)) (by first | assumption | (simp [go_sem]; done) | (simp [go_sem, *]; done)) hb2; have kc11_0 := keepC (p := ⟨w.heap.size + 1 + 1, 0, none⟩) (v := .int .i64 0) (by first | assumption | (simp [go_sem]; done) | (simp [go_sem, *]; done)) hb2; have kc11_1 := keepC (p := ⟨w.heap.size + 1 + 1, 1, none⟩) (v := .slice none 0 0) (by first | assumption | (simp [go_sem]; done) | (simp [go_sem, *]; done)) hb2; have lb11_ := (show w.heap.size + 1 + 1 < _ from World.block_lt_of_cell? _ _ kc11_0)))
      have hW2 : Below w.heap.size w w2 := by (repeat (first | with_reducible assumption | exact Below.refl _ _ | (refine Below.setCell ?_ (by first | exact Nat.le_refl _ | (simp; done) | omega | (simp; omega)) _) | (refine below_drewN ?_ _) | (refine Below.drew ?_) | (refine Below.alloc ?_ (by first | exact Nat.le_refl _ | (simp; done) | omega | (simp; omega)) _) | (refine then_ ?_ (by with_reducible assumption)) | assumption | (refine then_ ?_ (by assumption))))
      have ra : Rd colC 3 w2 w2.heap.size A n xs := ha.step hW2
      clear hb1 hb2
      go_cut [5] (fun p5 wx => ∃ g5 gs : Nat, p5 = .pointer (some ⟨g5, 0, none⟩) ∧ wx.cell? ⟨g5, 0, none⟩ = some (.int .i64 s) ∧ wx.cell? ⟨g5, 1, none⟩ = some (.slice (some ⟨gs, 0, none⟩) n n) ∧ w2.heap.size ≤ g5 ∧ ¬ g5 = gs ∧ wx.ownsRow w2.heap.size 26 3 (.slice (some ⟨gs, 0, none⟩) n n) n (flat colC (List.replicate n (0, 0, 0))) ∧ Below w2.heap.size w2 wx)
      case first =>
        go_region_held3 (fun w' => w'.cell? ⟨w.heap.size + 1, 0, none⟩ = some (.int .i64 s) ∧ w'.cell? ⟨w.heap.size + 1, 1, none⟩ = some (.slice A n c)) (go_keep) (fail)
        · go_wp2_with fail
          go_meet
          exact ⟨w2.heap.size + 1, w2.heap.size, rfl, by simp [go_sem], by simp [go_sem], by omega, by omega, World.ownsRow.drew ((own_zero w2 (Nat.le_refl _) hn).alloc _), by (repeat (first | with_reducible assumption | exact Below.refl _ _ | (refine Below.setCell ?_ (by first | exact Nat.le_refl _ | (simp; done) | omega | (simp; omega)) _) | (refine below_drewN ?_ _) | (refine Below.drew ?_) | (refine Below.alloc ?_ (by first | exact Nat.le_refl _ | (simp; done) | omega | (simp; omega)) _) | (refine then_ ?_ (by with_reducible assumption)) | assumption | (refine then_ ?_ (by assumption))))⟩
        · go_wp2_with fail
          go_meet
          have hz : (w2.alloc (Obj.cells #[Value.int .i64 s, Value.slice (some ⟨w2.heap.size + 1, 0, none⟩) n n] 47)).heap.size = w2.heap.size + 1 := by simp
          have o := own_zero (base := w2.heap.size) (n := n) (w2.alloc (Obj.cells #[Value.int .i64 s, Value.slice (some ⟨w2.heap.size + 1, 0, none⟩) n n] 47)) (by omega) hn
          rw [hz] at o
          exact ⟨w2.heap.size, w2.heap.size + 1, rfl, by simp [go_sem], by simp [go_sem], by omega, by omega, World.ownsRow.drew o, by (repeat (first | with_reducible assumption | exact Below.refl _ _ | (refine Below.setCell ?_ (by first | exact Nat.le_refl _ | (simp; done) | omega | (simp; omega)) _) | (refine below_drewN ?_ _) | (refine Below.drew ?_) | (refine Below.alloc ?_ (by first | exact Nat.le_refl _ | (simp; done) | omega | (simp; omega)) _) | (refine then_ ?_ (by with_reducible assumption)) | assumption | (refine then_ ?_ (by assumption))))⟩
      case rest =>
        obtain ⟨g5, gs, rfl, d0, d1, hg5, hne, hown, hwc⟩ := hcut
        have O0 := Lib.hid hown
        have gs0 := (hown.lt gs rfl).1
        have hB0 := hwc.size
        clear hown
        have kc1_0 := keepC (p := ⟨w.heap.size + 1, 0, none⟩) (v := .int .i64 s) (by first | assumption | (simp [go_sem]; done) | (simp [go_sem, *]; done)) hwc; have kc1_1 := keepC (p := ⟨w.heap.size + 1, 1, none⟩) (v := .slice A n c) (by first | assumption | (simp [go_sem]; done) | (simp [go_sem, *]; done)) hwc; have lb1_ := (show w.heap.size + 1 < _ from World.block_lt_of_cell? _ _ kc1_0)
        go_wp2_with fail
        go_loopw [27] (fun i wr => ∃ k : Nat, k ≤ n ∧ i = .int .i64 k ∧ wr.cell? ⟨g5, 0, none⟩ = some (.int .i64 s) ∧ wr.cell? ⟨g5, 1, none⟩ = some (.slice (some ⟨gs, 0, none⟩) n n) ∧ wr.ownsRow w2.heap.size 26 3 (.slice (some ⟨gs, 0, none⟩) n n) n (flat colC (actUp s t f xs k)) ∧ Below w2.heap.size w2 wr) (fun i _ => n - (intOf i).toNat)
        case atStart => exact ⟨0, Nat.zero_le _, rfl, d0, d1, by unfold actUp; rw [HL.out]; exact O0.out, hwc⟩
        case round =>
          clear d0 d1 hwc hB0 O0
          obtain ⟨k, hk, rfl, d0, d1, hown, hw⟩ := hrel
          have OW := Lib.hid hown
          have hz := hw.size
          clear hown
          by_cases hlt : k < n
          · obtain ⟨b, off, r, g, l, rfl, hbl, hx, c0, c1, c2⟩ := (ra.below hw).col hlt
            have S := Lib.hid (actUp_succ (s := s) (t := t) (f := f) hx)
            have hki : (k : Int) < (n : Int) := by omega
            have hk0 : (0 : Int) ≤ (k : Int) := by omega
            have hok : okCell s k = true := by
              have := SS.out
              unfold okCell inB
              simp only [Bool.and_eq_true, decide_eq_true_eq]
              omega
            have hcb := cellI_bd hok t f
            have hcv : cellV s k t f = cellI s k t f := by simp [cellV, hok, h1]
            obtain ⟨q, hq⟩ := Int.eq_ofNat_of_zero_le hcb.1
            have hqn : q < n := by have := SS.out; omega
            have CV := Lib.hid (show cellV s k t f = (q : Int) by rw [hcv, hq])
            have HQ := Lib.hid hq
            clear hx hok hcb hcv hq
            have kc_0 := keepC (p := ⟨w.heap.size, 0, none⟩) (v := .int .i64 t) (by first | assumption | (simp [go_sem]; done) | (simp [go_sem, *]; done)) hw; have kc_1 := keepC (p := ⟨w.heap.size, 1, none⟩) (v := .bool f) (by first | assumption | (simp [go_sem]; done) | (simp [go_sem, *]; done)) hw; have lb_ := (show w.heap.size < _ from World.block_lt_of_cell? _ _ kc_0)
            have kc1_0 := keepC (p := ⟨w.heap.size + 1, 0, none⟩) (v := .int .i64 s) (by first | assumption | (simp [go_sem]; done) | (simp [go_sem, *]; done)) hw; have kc1_1 := keepC (p := ⟨w.heap.size + 1, 1, none⟩) (v := .slice (some ⟨b, off, none⟩) n c) (by first | assumption | (simp [go_sem]; done) | (simp [go_sem, *]; done)) hw; have lb1_ := (show w.heap.size + 1 < _ from World.block_lt_of_cell? _ _ kc1_0)
            go_wp2_with fail
            obtain ⟨W, hWe⟩ : ∃ W, W = wr.alloc (Obj.cells #[.float .f32 r, .float .f32 g, .float .f32 l] 26) := ⟨_, rfl⟩
            have hW : Below wr.heap.size wr W := by rw [hWe]; (repeat (first | with_reducible assumption | exact Below.refl _ _ | (refine Below.setCell ?_ (by first | exact Nat.le_refl _ | (simp; done) | omega | (simp; omega)) _) | (refine below_drewN ?_ _) | (refine Below.drew ?_) | (refine Below.alloc ?_ (by first | exact Nat.le_refl _ | (simp; done) | omega | (simp; omega)) _) | (refine then_ ?_ (by with_reducible assumption)) | assumption | (refine then_ ?_ (by assumption))))
            have zW : wr.heap.size < W.heap.size := by rw [hWe]; simp
            have q0 : W.cell? ⟨wr.heap.size, 0, none⟩ = some (.float .f32 r) := by rw [hWe]; simp [go_sem]
            have q1 : W.cell? ⟨wr.heap.size, 1, none⟩ = some (.float .f32 g) := by rw [hWe]; simp [go_sem]
            have q2 : W.cell? ⟨wr.heap.size, 2, none⟩ = some (.float .f32 l) := by rw [hWe]; simp [go_sem]
            rw [← hWe]
            have e0 := keepC d0 hW
            have e1 := keepC d1 hW
            have l5 := World.block_lt_of_cell? _ _ e0
            dsimp only at l5
            have kc_0 := keepC (p := ⟨w.heap.size, 0, none⟩) (v := .int .i64 t) (by first | assumption | (simp [go_sem]; done) | (simp [go_sem, *]; done)) hW; have kc_1 := keepC (p := ⟨w.heap.size, 1, none⟩) (v := .bool f) (by first | assumption | (simp [go_sem]; done) | (simp [go_sem, *]; done)) hW; have lb_ := (show w.heap.size < _ from World.block_lt_of_cell? _ _ kc_0)
            have kc1_0 := keepC (p := ⟨w.heap.size + 1, 0, none⟩) (v := .int .i64 s) (by first | assumption | (simp [go_sem]; done) | (simp [go_sem, *]; done)) hW; have kc1_1 := keepC (p := ⟨w.heap.size + 1, 1, none⟩) (v := .slice (some ⟨b, off, none⟩) n c) (by first | assumption | (simp [go_sem]; done) | (simp [go_sem, *]; done)) hW; have lb1_ := (show w.heap.size + 1 < _ from World.block_lt_of_cell? _ _ kc1_0)
            have gl := (OW.out.lt gs rfl).2
            have n0 : ¬ w.heap.size = gs := by omega
            have n1 : ¬ w.heap.size + 1 = gs := by omega
            have n2 : ¬ wr.heap.size = gs := by omega
            have OW' := Lib.hid (owns_below OW.out hW)
            clear hWe c0 c1 c2 d0 d1
            go_region_held3 (fun w' => ∀ b o, b < W.heap.size → ¬ b = gs → w'.cell? ⟨b, o, none⟩ = W.cell? ⟨b, o, none⟩) (first | exact (fun _ _ _ _ => rfl) | assumption | exact keepSet (keepSet (keepSet (by assumption) _ _) _ _) _ _) ((go_at_call 86; refine (cellTo_any _ _ _ _ _).mono ?_; rintro e w5 ⟨rfl, hb5⟩; simp only [CV.out]; have hS5 : ∀ b o, b < W.heap.size → ¬ b = gs → w5.cell? ⟨b, o, none⟩ = W.cell? ⟨b, o, none⟩ := (fun b o h _ => hb5.cell (p := ⟨b, o, none⟩) h); have hB5 : Below W.heap.size W w5 := (by (repeat (first | with_reducible assumption | exact Below.refl _ _ | (refine Below.setCell ?_ (by first | exact Nat.le_refl _ | (simp; done) | omega | (simp; omega)) _) | (refine below_drewN ?_ _) | (refine Below.drew ?_) | (refine Below.alloc ?_ (by first | exact Nat.le_refl _ | (simp; done) | omega | (simp; omega)) _) | (refine then_ ?_ (by with_reducible assumption)) | assumption | (refine then_ ?_ (by assumption))))); have OW5 := Lib.hid (owns_below OW'.out hB5); obtain ⟨v0, hv0⟩ := owns_cell OW5.out (q * 3) (by omega); obtain ⟨v1, hv1⟩ := owns_cell OW5.out (q * 3 + 1) (by omega); obtain ⟨v2, hv2⟩ := owns_cell OW5.out (q * 3 + 2) (by omega); have hfr := fun j => OW5.out.frozenAt j))
            go_wp2
            go_roundw
            case rel =>
              have hSS := keepSet (keepSet (keepSet hS5 (q * 3) (.float .f32 r)) (q * 3 + 1) (.float .f32 g)) (q * 3 + 2) (.float .f32 l)
              refine ⟨k + 1, by omega, by go_num, (hSS g5 0 l5 hne).trans e0, (hSS g5 1 l5 hne).trans e1, ?_, ?_⟩
              · rw [S.out, HQ.out, Int.toNat_natCast, flat_set (by rw [actUp_len, HL.out]; exact hqn)]
                exact (((OW5.out.stored (q * 3) _).1.stored (q * 3 + 1) _).1.stored (q * 3 + 2) _).1
              · have hB := then_ (then_ hw hW) hB5
                (repeat (first | with_reducible assumption | exact Below.refl _ _ | (refine Below.setCell ?_ (by first | exact Nat.le_refl _ | (simp; done) | omega | (simp; omega)) _) | (refine below_drewN ?_ _) | (refine Below.drew ?_) | (refine Below.alloc ?_ (by first | exact Nat.le_refl _ | (simp; done) | omega | (simp; omega)) _) | (refine then_ ?_ (by with_reducible assumption)) | assumption | (refine then_ ?_ (by assumption))))
            case measure => simp [intOf]; omega
          · obtain rfl : k = n := by omega
            have kf11_0 := keepF (p := ⟨w.heap.size + 1 + 1, 0, none⟩) (v := .int .i64 0) (by first | assumption | (simp [go_sem]; done) | (simp [go_sem, *]; done)) (by first | assumption | (simp [go_sem]; done) | (simp [go_sem, *]; done)) hw; have kf11_1 := keepF (p := ⟨w.heap.size + 1 + 1, 1, none⟩) (v := .slice none 0 0) (by first | assumption | (simp [go_sem]; done) | (simp [go_sem, *]; done)) (by first | assumption | (simp [go_sem]; done) | (simp [go_sem, *]; done)) hw; have kc11_0 := keepC (p := ⟨w.heap.size + 1 + 1, 0, none⟩) (v := .int .i64 0) (by first | assumption | (simp [go_sem]; done) | (simp [go_sem, *]; done)) hw; have kc11_1 := keepC (p := ⟨w.heap.size + 1 + 1, 1, none⟩) (v := .slice none 0 0) (by first | assumption | (simp [go_sem]; done) | (simp [go_sem, *]; done)) hw; have lb11_ := (show w.heap.size + 1 + 1 < _ from World.block_lt_of_cell? _ _ kc11_0)
            go_wp2
            exact bodyPost_ret (v := .agg #[.int .i64 s, .slice (some ⟨gs, 0, none⟩) k k]) (by simp [results, Tryz.results55, go_sem, *]) rfl ⟨some ⟨gs, 0, none⟩, k, by rw [R.out, actUp_len, HL.out], by
              rw [R.out, actUp_len, HL.out]
              have hl := (OW.out.lt gs rfl).1
              exact owns_mono (ownsRow_setCell_below (ownsRow_setCell_below OW.out (by simp; omega) _) (by simp; omega) _) hW2.size, by (repeat (first | with_reducible assumption | exact Below.refl _ _ | (refine Below.setCell ?_ (by first | exact Nat.le_refl _ | (simp; done) | omega | (simp; omega)) _) | (refine below_drewN ?_ _) | (refine Below.drew ?_) | (refine Below.alloc ?_ (by first | exact Nat.le_refl _ | (simp; done) | omega | (simp; omega)) _) | (refine then_ ?_ (by with_reducible assumption)) | assumption | (refine then_ ?_ (by assumption))))⟩
end Go.Proofs.YthlphmojldbpkaaGreat
/- SpreadP -/
/- SpreadPicture: what it computes; plain facts. -/
namespace Go.Proofs.YthlphmojldbpkaaGreat
open Go.RowKit
attribute [local go_sem] run_store_float run_store_complex
def spreadOk (kind s : Int) (xs : List Col) : Bool := inB kind 0 3 && pictB s xs
end Go.Proofs.YthlphmojldbpkaaGreat
/- SeenIn -/
/- SeenIn: the program's, of good shows. -/
namespace Go.Proofs.YthlphmojldbpkaaGreat
open Go.RowKit
attribute [local go_sem] run_store_float run_store_complex
/-- the glass that is seen: moved to where the beads are -/
def glassUp (sh : List Sh) (bs : List Bd) : Nat → List Sh
  | 0 => []
  | k + 1 => match sh[k]?, bs[k]? with
    | some x, some b => if okSh (moveSh x b.1) then glassUp sh bs k ++ [moveSh x b.1] else glassUp sh bs k
    | _, _ => glassUp sh bs k
theorem glassUp_yes {sh : List Sh} {bs : List Bd} {k : Nat} {x : Sh} {b : Bd} (hx : sh[k]? = some x) (hb : bs[k]? = some b) (h : okSh (moveSh x b.1) = true) : glassUp sh bs (k + 1) = glassUp sh bs k ++ [moveSh x b.1] := by
  show (match sh[k]?, bs[k]? with | some x, some b => if okSh (moveSh x b.1) then glassUp sh bs k ++ [moveSh x b.1] else glassUp sh bs k | _, _ => glassUp sh bs k) = _
  rw [hx, hb]
  simp [h]
theorem glassUp_no {sh : List Sh} {bs : List Bd} {k : Nat} {x : Sh} {b : Bd} (hx : sh[k]? = some x) (hb : bs[k]? = some b) (h : okSh (moveSh x b.1) = false) : glassUp sh bs (k + 1) = glassUp sh bs k := by
  show (match sh[k]?, bs[k]? with | some x, some b => if okSh (moveSh x b.1) then glassUp sh bs k ++ [moveSh x b.1] else glassUp sh bs k | _, _ => glassUp sh bs k) = _
  rw [hx, hb]
  simp [h]
theorem glassUp_len (sh : List Sh) (bs : List Bd) : ∀ k, (glassUp sh bs k).length ≤ k
  | 0 => Nat.le_refl _
  | k + 1 => by
    have ih := glassUp_len sh bs k
    cases hx : sh[k]? with
    | none => unfold glassUp; rw [hx]; dsimp only; omega
    | some x =>
      cases hb : bs[k]? with
      | none => unfold glassUp; rw [hx, hb]; dsimp only; omega
      | some b =>
        cases h : okSh (moveSh x b.1)
        · rw [glassUp_no hx hb h]; omega
        · rw [glassUp_yes hx hb h]; simp; omega
theorem glassUp_ok (sh : List Sh) (bs : List Bd) : ∀ k, (glassUp sh bs k).all okSh = true
  | 0 => rfl
  | k + 1 => by
    have ih := glassUp_ok sh bs k
    cases hx : sh[k]? with
    | none => unfold glassUp; rw [hx]; exact ih
    | some x =>
      cases hb : bs[k]? with
      | none => unfold glassUp; rw [hx, hb]; exact ih
      | some b =>
        cases h : okSh (moveSh x b.1)
        · rw [glassUp_no hx hb h]; exact ih
        · rw [glassUp_yes hx hb h, List.all_append, ih]; simp [h]
theorem wedge_point {kind : Int} {p : Pt} (h : wedgeB kind p = true) : pointB p.1 p.2 = true := by
  unfold wedgeB at h
  rw [Bool.and_eq_true] at h
  exact h.1
theorem box_first {X w5 : World} {a : Array Value} {t : TypeId} (hb : Below (X.alloc (Obj.cells a t)).drew.heap.size (X.alloc (Obj.cells a t)).drew w5) :
    X.heap.size < w5.heap.size ∧ CA w5 X.heap.size a.toList ∧ FA w5 X.heap.size :=
  ⟨by have := hb.size; have e : (X.alloc (Obj.cells a t)).drew.heap.size = X.heap.size + 1 := (show (X.alloc (Obj.cells a t)).heap.size = _ by simp); omega, (show CA (X.alloc (Obj.cells a t)).drew X.heap.size a.toList from CA.new X a t).keep hb, (show FA (X.alloc (Obj.cells a t)).drew X.heap.size from FA.new X a t).keep hb (by show X.heap.size < (X.alloc (Obj.cells a t)).heap.size; simp)⟩
set_option maxRecDepth 100000 in
set_option maxHeartbeats 16000000 in
theorem seenIn_any (s : Shw) (S B L : Option Addr) (k d q0 N : Nat) (w : World) (hg : Good s) (hk : okS s = true) (hN : s.sz * s.sz = (N : Int)) (hr : RdS w s S B L) :
    Calls Tryz.prog 11 #[.agg #[.int .i64 s.sz, .float .f32 s.st, .float .f32 s.li.1, .float .f32 s.li.2.1, .float .f32 s.li.2.2, .slice S s.sh.length k, .int .i64 s.mir, .complex .f32 s.gr.1 s.gr.2, .float .f32 s.loss, .slice B s.bs.length d, .int .i64 s.tk, .slice L s.log.length q0]] w fun r w' => (∃ A c, r = .returned (.tuple #[.agg #[.int .i64 s.sz, .slice A N c], .bool true]) ∧ w'.ownsRow w.heap.size 26 3 (.slice A N c) N (flat colC (takeUp s.mir s.sz s.st (glassUp s.sh s.bs s.sh.length) s.li N))) ∧ Below w.heap.size w w' := by
  obtain ⟨p1, p2, p3, p4⟩ := okS_parts.1 hk
  have hl := hg.len
  have l1 : s.sh.length ≤ 8 := by omega
  have KI := Lib.hid (fun w (h : RdS w s S B L) => isShow_any s S B L s.sh.length k s.bs.length d s.log.length q0 w hg (by omega) (by omega) (by omega) h.1 h.2.1 h.2.2)
  rw [hk] at KI
  obtain ⟨ls, hls⟩ : ∃ ls, ls = glassUp s.sh s.bs s.sh.length := ⟨_, rfl⟩
  have KT := Lib.hid (fun G c w h => takePicture_yes s.mir s.sz s.st G ls.length c ls s.li.1 s.li.2.1 s.li.2.2 N w hg.mir hg.sz hg.st (by rw [hls]; have := glassUp_len s.sh s.bs s.sh.length; omega) (by rw [hls]; exact glassUp_ok _ _ _) hg.li hN h)
  rw [← hls]
  have LS := Lib.hid hls
  have HG := Lib.hid hg
  have HR := Lib.hid hr
  obtain ⟨n, hnn⟩ : ∃ n, n = s.sh.length := ⟨_, rfl⟩
  have hnb : s.bs.length = n := by omega
  have RS := Lib.hid (hr.rs)
  have RB := Lib.hid (hr.rb)
  rw [← hnn] at KI RS LS l1 ⊢
  rw [hnb] at KI RB ⊢
  obtain ⟨i0, hi, hz0, hz1, hz2⟩ := info_parts infoSh
  clear hg hk hr p1 p2 p3 p4 hl hN hls hnn hnb
  go_enter Tryz.func11, Tryz.ntmps11
  go_upto_region 1 with fail
  have hW := Below.refl w.heap.size w
  have ca := CA.new w #[.int .i64 s.sz, .float .f32 s.st, .float .f32 s.li.1, .float .f32 s.li.2.1, .float .f32 s.li.2.2, .slice S n k, .int .i64 s.mir, .complex .f32 s.gr.1 s.gr.2, .float .f32 s.loss, .slice B n d, .int .i64 s.tk, .slice L s.log.length q0] 34; have fa := FA.new w #[.int .i64 s.sz, .float .f32 s.st, .float .f32 s.li.1, .float .f32 s.li.2.1, .float .f32 s.li.2.2, .slice S n k, .int .i64 s.mir, .complex .f32 s.gr.1 s.gr.2, .float .f32 s.loss, .slice B n d, .int .i64 s.tk, .slice L s.log.length q0] 34; replace hW := hW.alloc (hW.size) (Obj.cells #[.int .i64 s.sz, .float .f32 s.st, .float .f32 s.li.1, .float .f32 s.li.2.1, .float .f32 s.li.2.2, .slice S n k, .int .i64 s.mir, .complex .f32 s.gr.1 s.gr.2, .float .f32 s.loss, .slice B n d, .int .i64 s.tk, .slice L s.log.length q0] 34); obtain ⟨V1, hV1e⟩ : ∃ V1, V1 = w.alloc (Obj.cells #[.int .i64 s.sz, .float .f32 s.st, .float .f32 s.li.1, .float .f32 s.li.2.1, .float .f32 s.li.2.2, .slice S n k, .int .i64 s.mir, .complex .f32 s.gr.1 s.gr.2, .float .f32 s.loss, .slice B n d, .int .i64 s.tk, .slice L s.log.length q0] 34) := ⟨_, rfl⟩; have zV1 : V1.heap.size = w.heap.size + 1 := (by rw [hV1e]; simp); rw [← hV1e] at ca fa hW; rw [← hV1e]; clear hV1e; have la := ca.lt
  have co := CA.new V1 #[.int .i64 0, .slice none 0 0] 47; have fo := FA.new V1 #[.int .i64 0, .slice none 0 0] 47; replace ca := ca.alloc (Obj.cells #[.int .i64 0, .slice none 0 0] 47); replace fa := fa.alloc la (Obj.cells #[.int .i64 0, .slice none 0 0] 47); replace hW := hW.alloc (hW.size) (Obj.cells #[.int .i64 0, .slice none 0 0] 47); obtain ⟨V, hVe⟩ : ∃ V, V = V1.alloc (Obj.cells #[.int .i64 0, .slice none 0 0] 47) := ⟨_, rfl⟩; have zV : V.heap.size = V1.heap.size + 1 := (by rw [hVe]; simp); rw [← hVe] at co fo ca fa hW; rw [← hVe]; clear hVe; have lo := co.lt; replace la := ca.lt
  rw [zV1] at co fo lo zV
  have hWV := Lib.hid hW
  have CAV := Lib.hid ca
  have COV := Lib.hid co
  have FOV := Lib.hid fo
  have LA := Lib.hid la
  have LO := Lib.hid lo
  have zVV := Lib.hid zV
  clear zV1 zV
  have a0 := ca 0 _ rfl; have a1 := ca 1 _ rfl; have a2 := ca 2 _ rfl; have a3 := ca 3 _ rfl; have a4 := ca 4 _ rfl; have a5 := ca 5 _ rfl; have a6 := ca 6 _ rfl; have a7 := ca 7 _ rfl; have a8 := ca 8 _ rfl; have a9 := ca 9 _ rfl; have a10 := ca 10 _ rfl; have a11 := ca 11 _ rfl
  go_wp2_with fail
  (with_reducible refine (KI.out _ (HR.out.step hW)).mono ?_)
  rintro r w1 ⟨rfl, hb1⟩
  clear a0 a1 a2 a3 a4 a5 a6 a7 a8 a9 a10 a11 ca fa co fo la lo hW KI
  have hVw := hb1.size
  go_upto_region 4 with fail
  have o0 : (w1.alloc (Obj.cells #[] 36)).ownsRow V.heap.size 36 7 (.slice (some ⟨w1.heap.size, 0, none⟩) 0 0) 0 [] := World.ownsRow_lit (base := V.heap.size) (size := 7) (e := 36) w1 #[] 0 hVw (by simp [maxLen]) rfl
  have hB0 : Below V.heap.size V (w1.alloc (Obj.cells #[] 36)) := hb1.alloc hVw _
  have O0 := Lib.hid o0
  have HB0 := Lib.hid hB0
  have a5 : (w1.alloc (Obj.cells #[] 36)).cell? ⟨w.heap.size, 5, none⟩ = some (.slice S n k) := (CAV.out.belB hB0 LA.out) 5 _ rfl
  obtain ⟨W, hWe⟩ : ∃ W, W = w1.alloc (Obj.cells #[] 36) := ⟨_, rfl⟩
  rw [← hWe] at O0 HB0 a5
  rw [← hWe]
  clear hWe o0 hB0 hb1
  go_wp2_with fail
  clear a5 hVw
  go_loopw [4, 17] (fun v i wr => ∃ (kk : Nat) (G : Option Addr) (gc : Nat), kk ≤ n ∧ v = .slice G (glassUp s.sh s.bs kk).length gc ∧ i = .int .i64 kk ∧ wr.ownsRow V.heap.size 36 7 (.slice G (glassUp s.sh s.bs kk).length gc) (glassUp s.sh s.bs kk).length (flat shC (glassUp s.sh s.bs kk)) ∧ Below V.heap.size V wr) (fun _ i _ => n - (intOf i).toNat)
  case atStart => exact ⟨0, _, _, Nat.zero_le _, rfl, rfl, O0.out, HB0.out⟩
  case round =>
    clear O0 HB0
    obtain ⟨kk, G, gc, hkn, rfl, rfl, hown, hBV⟩ := hrel
    have hWr := then_ hWV.out hBV
    have ca := CAV.out.belB hBV LA.out
    have HN8 : kk ≤ 8 := by omega
    obtain ⟨ys, hys⟩ : ∃ ys, ys = glassUp s.sh s.bs kk := ⟨_, rfl⟩
    obtain ⟨m, hm⟩ : ∃ m, m = ys.length := ⟨_, rfl⟩
    have hm8 : m ≤ 8 := by rw [hm, hys]; have := glassUp_len s.sh s.bs kk; omega
    rw [← hys, ← hm] at hown
    rw [← hys, ← hm]
    have YS := Lib.hid hys
    have HM := Lib.hid hm
    have la : w.heap.size < wr.heap.size := Nat.lt_of_lt_of_le LA.out hBV.size
    clear hys hm
    by_cases hlt : kk < n
    · obtain ⟨bb, off, a, e, f, ⟨r, g, l⟩, q, hSe, hbl, hx, h0, h1, h2, h3, h4, h5, h6⟩ : ∃ bb off a e f, ∃ (c : Col), ∃ q, S = some ⟨bb, off, none⟩ ∧ bb < wr.heap.size ∧ s.sh[kk]? = some (a, e, f, c, q) ∧ wr.cell? ⟨bb, off + kk * 7, none⟩ = some (.complex .f32 a.1 a.2) ∧ wr.cell? ⟨bb, off + kk * 7 + 1, none⟩ = some (.complex .f32 e.1 e.2) ∧ wr.cell? ⟨bb, off + kk * 7 + 2, none⟩ = some (.complex .f32 f.1 f.2) ∧ wr.cell? ⟨bb, off + kk * 7 + 3, none⟩ = some (.float .f32 c.1) ∧ wr.cell? ⟨bb, off + kk * 7 + 4, none⟩ = some (.float .f32 c.2.1) ∧ wr.cell? ⟨bb, off + kk * 7 + 5, none⟩ = some (.float .f32 c.2.2) ∧ wr.cell? ⟨bb, off + kk * 7 + 6, none⟩ = some (.float .f32 q) := by
        obtain ⟨bb, off, a, c, d, r, g, l, q, e, hb, hx, h⟩ := (RS.out.step hWr).sh hlt
        exact ⟨bb, off, a, c, d, (r, g, l), q, e, hb, hx, h⟩
      obtain ⟨b2, of2, b1, v1, hBe, hb2, hy, y0, y1⟩ := (RB.out.step hWr).bd hlt
      have hokx := List.all_eq_true.1 HG.out.sh _ (List.mem_of_getElem? hx)
      have hbp := wedge_point (HG.out.wed _ (List.mem_of_getElem? hy))
      dsimp only at h3 h4 h5 hbp
      have hki : (kk : Int) < (n : Int) := by omega
      have hk0 : (0 : Int) ≤ (kk : Int) := by omega
      obtain ⟨M, hM⟩ : ∃ M, M = moveSh (a, e, f, (r, g, l), q) b1 := ⟨_, rfl⟩
      have kv := fun w => moveShard_lit a e f r g l q b1 w hokx hbp
      rw [← hM] at kv
      have HX := Lib.hid hx
      have HY := Lib.hid hy
      have HMM := Lib.hid hM
      clear hx hy hokx hbp hM
      cases hok : okSh M
      · rw [hok] at kv
        have KV := Lib.hid (show ∀ w, Calls Tryz.prog 37 #[.agg #[.complex .f32 a.1 a.2, .complex .f32 e.1 e.2, .complex .f32 f.1 f.2, .float .f32 r, .float .f32 g, .float .f32 l, .float .f32 q], .complex .f32 b1.1 b1.2] w (fun rr w' => rr = .returned (.tuple #[.agg #[.complex .f32 a.1 a.2, .complex .f32 e.1 e.2, .complex .f32 f.1 f.2, .float .f32 r, .float .f32 g, .float .f32 l, .float .f32 q], .bool false]) ∧ Below w.heap.size w w') from kv)
        have GU := Lib.hid (glassUp_no HX.out HY.out (by rw [← HMM.out]; exact hok))
        clear kv hok
        subst hSe hBe
        have a0 := ca 0 _ rfl; have a1 := ca 1 _ rfl; have a2 := ca 2 _ rfl; have a3 := ca 3 _ rfl; have a4 := ca 4 _ rfl; have a5 := ca 5 _ rfl; have a6 := ca 6 _ rfl; have a7 := ca 7 _ rfl; have a8 := ca 8 _ rfl; have a9 := ca 9 _ rfl; have a10 := ca 10 _ rfl; have a11 := ca 11 _ rfl
        go_upto_region 7 with fail
        have cx := CA.new wr #[.complex .f32 a.1 a.2, .complex .f32 e.1 e.2, .complex .f32 f.1 f.2, .float .f32 r, .float .f32 g, .float .f32 l, .float .f32 q] 36
        have hbe : Below wr.heap.size wr (wr.alloc (Obj.cells #[.complex .f32 a.1 a.2, .complex .f32 e.1 e.2, .complex .f32 f.1 f.2, .float .f32 r, .float .f32 g, .float .f32 l, .float .f32 q] 36)) := by (with_reducible exact Below.alloc (Below.refl _ _) (Nat.le_refl _) _)
        have own' := hown.alloc (Obj.cells #[.complex .f32 a.1 a.2, .complex .f32 e.1 e.2, .complex .f32 f.1 f.2, .float .f32 r, .float .f32 g, .float .f32 l, .float .f32 q] 36)
        replace ca := ca.keep hbe
        have y0' := keepC y0 hbe
        have hBX := then_ hBV hbe
        obtain ⟨X, hX⟩ : ∃ X, X = wr.alloc (Obj.cells #[.complex .f32 a.1 a.2, .complex .f32 e.1 e.2, .complex .f32 f.1 f.2, .float .f32 r, .float .f32 g, .float .f32 l, .float .f32 q] 36) := ⟨_, rfl⟩
        rw [← hX] at cx own' ca y0' hBX
        rw [← hX]
        clear hX hbe h0 h1 h2 h3 h4 h5 h6 y0 y1 a0 a1 a2 a3 a4 a5 a6 a7 a8 a9 a10 a11 hown la hWr hbl hb2 hBV
        have OW := Lib.hid own'
        clear own'
        have lb2 : b2 < X.heap.size := World.block_lt_of_cell? _ _ y0'
        have la := ca.lt
        have lx := cx.lt
        have a0 := ca 0 _ rfl; have a1 := ca 1 _ rfl; have a2 := ca 2 _ rfl; have a3 := ca 3 _ rfl; have a4 := ca 4 _ rfl; have a5 := ca 5 _ rfl; have a6 := ca 6 _ rfl; have a7 := ca 7 _ rfl; have a8 := ca 8 _ rfl; have a9 := ca 9 _ rfl; have a10 := ca 10 _ rfl; have a11 := ca 11 _ rfl
        have x0 := cx 0 _ rfl; have x1 := cx 1 _ rfl; have x2 := cx 2 _ rfl; have x3 := cx 3 _ rfl; have x4 := cx 4 _ rfl; have x5 := cx 5 _ rfl; have x6 := cx 6 _ rfl
        go_cut [7, 8] from 18 to 39 (fun v7 v8 wx => ∃ g7 : Nat, v7 = .pointer (some ⟨g7, 0, none⟩) ∧ v8 = .bool false ∧ CA wx g7 #[.complex .f32 a.1 a.2, .complex .f32 e.1 e.2, .complex .f32 f.1 f.2, .float .f32 r, .float .f32 g, .float .f32 l, .float .f32 q].toList ∧ Below X.heap.size X wx)
        case first =>
          go_region_held3 (fun w' => (∀ b o, b < X.heap.size → w'.cell? ⟨b, o, none⟩ = X.cell? ⟨b, o, none⟩) ∧ Below X.heap.size X w') (first | with_reducible assumption | with_reducible exact startS _ | with_reducible exact startSM _ _ | with_reducible exact stepS (by assumption) (by assumption) | with_reducible exact ofBel (by (repeat (first | with_reducible assumption | with_reducible exact Below.refl _ _ | with_reducible refine Below.setCell ?_ (by first | exact Nat.le_refl _ | (dsimp only; omega)) _ | with_reducible refine Below.alloc ?_ (by first | exact Nat.le_refl _ | omega) _ | with_reducible refine Below.drew ?_ | with_reducible refine below_drewN ?_ _)))) (first | (go_at_call 37; (with_reducible refine (KV.out _).mono ?_); rintro r6 w6 ⟨rfl, hb6⟩; have hB6 : Below X.heap.size X w6 := (by (repeat (first | with_reducible assumption | exact Below.refl _ _ | (refine Below.setCell ?_ (by first | exact Nat.le_refl _ | (simp; done) | omega | (simp; omega)) _) | (refine below_drewN ?_ _) | (refine Below.drew ?_) | (refine Below.alloc ?_ (by first | exact Nat.le_refl _ | (simp; done) | omega | (simp; omega)) _) | (refine then_ ?_ (by with_reducible assumption)) | assumption | (refine then_ ?_ (by assumption))))); have z6 := hB6.size; (first | (obtain ⟨hx6, cg, fg⟩ := box_first hb6; have k0 := cg 0 _ rfl; have k1 := cg 1 _ rfl; have k2 := cg 2 _ rfl; have k3 := cg 3 _ rfl; have k4 := cg 4 _ rfl; have k5 := cg 5 _ rfl; have k6 := cg 6 _ rfl; have j0 := fg 0; have j1 := fg 1; have j2 := fg 2; have j3 := fg 3; have j4 := fg 4; have j5 := fg 5; have j6 := fg 6; have lg := cg.lt) | skip)))
          all_goals
            go_wp2_with fail
            go_meet
            first
              | (refine ⟨w6.heap.size, rfl, rfl, ?_, (by (repeat (first | with_reducible assumption | with_reducible exact Below.refl _ _ | with_reducible refine Below.setCell ?_ (by first | exact Nat.le_refl _ | (dsimp only; omega)) _ | with_reducible refine Below.alloc ?_ (by first | exact Nat.le_refl _ | omega) _ | with_reducible refine Below.drew ?_ | with_reducible refine below_drewN ?_ _)))⟩
                 exact CA.new w6 _ _)
              | (refine ⟨X.heap.size, rfl, rfl, ?_, (by (repeat (first | with_reducible assumption | with_reducible exact Below.refl _ _ | with_reducible refine Below.setCell ?_ (by first | exact Nat.le_refl _ | (dsimp only; omega)) _ | with_reducible refine Below.alloc ?_ (by first | exact Nat.le_refl _ | omega) _ | with_reducible refine Below.drew ?_ | with_reducible refine below_drewN ?_ _)))⟩
                 exact (((((((cg.put 0 _).put 1 _).put 2 _).put 3 _).put 4 _).put 5 _).put 6 _))
        case rest =>
          obtain ⟨g7, rfl, rfl, c7, hwc⟩ := hcut
          have OW2 := Lib.hid (owns_below OW.out hwc)
          have hB2 := then_ hBX hwc
          clear OW a0 a1 a2 a3 a4 a5 a6 a7 a8 a9 a10 a11 x0 x1 x2 x3 x4 x5 x6
          have k0 := c7 0 _ rfl; have k1 := c7 1 _ rfl; have k2 := c7 2 _ rfl; have k3 := c7 3 _ rfl; have k4 := c7 4 _ rfl; have k5 := c7 5 _ rfl; have k6 := c7 6 _ rfl
          have lg7 := c7.lt
          go_wp2
          go_roundw
          case rel =>
            refine ⟨kk + 1, G, gc, by omega, ?_, by go_num, ?_, hB2⟩
            · rw [GU.out, ← YS.out, ← HM.out]
            · rw [GU.out, ← YS.out, ← HM.out]; exact OW2.out
          case measure => simp [intOf]; omega
      · rw [hok] at kv
        have KV := Lib.hid (show ∀ w, Calls Tryz.prog 37 #[.agg #[.complex .f32 a.1 a.2, .complex .f32 e.1 e.2, .complex .f32 f.1 f.2, .float .f32 r, .float .f32 g, .float .f32 l, .float .f32 q], .complex .f32 b1.1 b1.2] w (fun rr w' => rr = .returned (.tuple #[.agg #[.complex .f32 M.1.1 M.1.2, .complex .f32 M.2.1.1 M.2.1.2, .complex .f32 M.2.2.1.1 M.2.2.1.2, .float .f32 M.2.2.2.1.1, .float .f32 M.2.2.2.1.2.1, .float .f32 M.2.2.2.1.2.2, .float .f32 M.2.2.2.2], .bool true]) ∧ Below w.heap.size w w') from kv)
        have GU := Lib.hid (glassUp_yes HX.out HY.out (by rw [← HMM.out]; exact hok))
        clear kv hok
        subst hSe hBe
        have a0 := ca 0 _ rfl; have a1 := ca 1 _ rfl; have a2 := ca 2 _ rfl; have a3 := ca 3 _ rfl; have a4 := ca 4 _ rfl; have a5 := ca 5 _ rfl; have a6 := ca 6 _ rfl; have a7 := ca 7 _ rfl; have a8 := ca 8 _ rfl; have a9 := ca 9 _ rfl; have a10 := ca 10 _ rfl; have a11 := ca 11 _ rfl
        go_upto_region 7 with fail
        have cx := CA.new wr #[.complex .f32 a.1 a.2, .complex .f32 e.1 e.2, .complex .f32 f.1 f.2, .float .f32 r, .float .f32 g, .float .f32 l, .float .f32 q] 36
        have hbe : Below wr.heap.size wr (wr.alloc (Obj.cells #[.complex .f32 a.1 a.2, .complex .f32 e.1 e.2, .complex .f32 f.1 f.2, .float .f32 r, .float .f32 g, .float .f32 l, .float .f32 q] 36)) := by (with_reducible exact Below.alloc (Below.refl _ _) (Nat.le_refl _) _)
        have own' := hown.alloc (Obj.cells #[.complex .f32 a.1 a.2, .complex .f32 e.1 e.2, .complex .f32 f.1 f.2, .float .f32 r, .float .f32 g, .float .f32 l, .float .f32 q] 36)
        replace ca := ca.keep hbe
        have y0' := keepC y0 hbe
        have hBX := then_ hBV hbe
        obtain ⟨X, hX⟩ : ∃ X, X = wr.alloc (Obj.cells #[.complex .f32 a.1 a.2, .complex .f32 e.1 e.2, .complex .f32 f.1 f.2, .float .f32 r, .float .f32 g, .float .f32 l, .float .f32 q] 36) := ⟨_, rfl⟩
        rw [← hX] at cx own' ca y0' hBX
        rw [← hX]
        clear hX hbe h0 h1 h2 h3 h4 h5 h6 y0 y1 a0 a1 a2 a3 a4 a5 a6 a7 a8 a9 a10 a11 hown la hWr hbl hb2 hBV
        have OW := Lib.hid own'
        clear own'
        have lb2 : b2 < X.heap.size := World.block_lt_of_cell? _ _ y0'
        have la := ca.lt
        have lx := cx.lt
        have a0 := ca 0 _ rfl; have a1 := ca 1 _ rfl; have a2 := ca 2 _ rfl; have a3 := ca 3 _ rfl; have a4 := ca 4 _ rfl; have a5 := ca 5 _ rfl; have a6 := ca 6 _ rfl; have a7 := ca 7 _ rfl; have a8 := ca 8 _ rfl; have a9 := ca 9 _ rfl; have a10 := ca 10 _ rfl; have a11 := ca 11 _ rfl
        have x0 := cx 0 _ rfl; have x1 := cx 1 _ rfl; have x2 := cx 2 _ rfl; have x3 := cx 3 _ rfl; have x4 := cx 4 _ rfl; have x5 := cx 5 _ rfl; have x6 := cx 6 _ rfl
        go_cut [7, 8] from 18 to 39 (fun v7 v8 wx => ∃ g7 : Nat, v7 = .pointer (some ⟨g7, 0, none⟩) ∧ v8 = .bool true ∧ CA wx g7 #[.complex .f32 M.1.1 M.1.2, .complex .f32 M.2.1.1 M.2.1.2, .complex .f32 M.2.2.1.1 M.2.2.1.2, .float .f32 M.2.2.2.1.1, .float .f32 M.2.2.2.1.2.1, .float .f32 M.2.2.2.1.2.2, .float .f32 M.2.2.2.2].toList ∧ Below X.heap.size X wx)
        case first =>
          go_region_held3 (fun w' => (∀ b o, b < X.heap.size → w'.cell? ⟨b, o, none⟩ = X.cell? ⟨b, o, none⟩) ∧ Below X.heap.size X w') (first | with_reducible assumption | with_reducible exact startS _ | with_reducible exact startSM _ _ | with_reducible exact stepS (by assumption) (by assumption) | with_reducible exact ofBel (by (repeat (first | with_reducible assumption | with_reducible exact Below.refl _ _ | with_reducible refine Below.setCell ?_ (by first | exact Nat.le_refl _ | (dsimp only; omega)) _ | with_reducible refine Below.alloc ?_ (by first | exact Nat.le_refl _ | omega) _ | with_reducible refine Below.drew ?_ | with_reducible refine below_drewN ?_ _)))) (first | (go_at_call 37; (with_reducible refine (KV.out _).mono ?_); rintro r6 w6 ⟨rfl, hb6⟩; have hB6 : Below X.heap.size X w6 := (by (repeat (first | with_reducible assumption | exact Below.refl _ _ | (refine Below.setCell ?_ (by first | exact Nat.le_refl _ | (simp; done) | omega | (simp; omega)) _) | (refine below_drewN ?_ _) | (refine Below.drew ?_) | (refine Below.alloc ?_ (by first | exact Nat.le_refl _ | (simp; done) | omega | (simp; omega)) _) | (refine then_ ?_ (by with_reducible assumption)) | assumption | (refine then_ ?_ (by assumption))))); have z6 := hB6.size; (first | (obtain ⟨hx6, cg, fg⟩ := box_first hb6; have k0 := cg 0 _ rfl; have k1 := cg 1 _ rfl; have k2 := cg 2 _ rfl; have k3 := cg 3 _ rfl; have k4 := cg 4 _ rfl; have k5 := cg 5 _ rfl; have k6 := cg 6 _ rfl; have j0 := fg 0; have j1 := fg 1; have j2 := fg 2; have j3 := fg 3; have j4 := fg 4; have j5 := fg 5; have j6 := fg 6; have lg := cg.lt) | skip)))
          all_goals
            go_wp2_with fail
            go_meet
            first
              | (refine ⟨w6.heap.size, rfl, rfl, ?_, (by (repeat (first | with_reducible assumption | with_reducible exact Below.refl _ _ | with_reducible refine Below.setCell ?_ (by first | exact Nat.le_refl _ | (dsimp only; omega)) _ | with_reducible refine Below.alloc ?_ (by first | exact Nat.le_refl _ | omega) _ | with_reducible refine Below.drew ?_ | with_reducible refine below_drewN ?_ _)))⟩
                 exact CA.new w6 _ _)
              | (refine ⟨X.heap.size, rfl, rfl, ?_, (by (repeat (first | with_reducible assumption | with_reducible exact Below.refl _ _ | with_reducible refine Below.setCell ?_ (by first | exact Nat.le_refl _ | (dsimp only; omega)) _ | with_reducible refine Below.alloc ?_ (by first | exact Nat.le_refl _ | omega) _ | with_reducible refine Below.drew ?_ | with_reducible refine below_drewN ?_ _)))⟩
                 exact (((((((cg.put 0 _).put 1 _).put 2 _).put 3 _).put 4 _).put 5 _).put 6 _))
        case rest =>
          obtain ⟨g7, rfl, rfl, c7, hwc⟩ := hcut
          have OW2 := Lib.hid (owns_below OW.out hwc)
          have hB2 := then_ hBX hwc
          clear OW a0 a1 a2 a3 a4 a5 a6 a7 a8 a9 a10 a11 x0 x1 x2 x3 x4 x5 x6
          have k0 := c7 0 _ rfl; have k1 := c7 1 _ rfl; have k2 := c7 2 _ rfl; have k3 := c7 3 _ rfl; have k4 := c7 4 _ rfl; have k5 := c7 5 _ rfl; have k6 := c7 6 _ rfl
          have lg7 := c7.lt
          go_wp2_with (at_builtin; refine wpList_append_own_at _ rfl _ _ 27 rfl V.heap.size 36 i0 (.agg #[.complex .f32 0 0, .complex .f32 0 0, .complex .f32 0 0, .float .f32 0, .float .f32 0, .float .f32 0, .float .f32 0]) 7 40 Tryz.underlying27 hi hz0 hz1 hz2 rfl (by decide) _ _ _ rfl (OW2.out.alloc _) ⟨wc.heap.size, 0, none⟩ 1 1 [.complex .f32 M.1.1 M.1.2, .complex .f32 M.2.1.1 M.2.1.2, .complex .f32 M.2.2.1.1 M.2.2.1.2, .float .f32 M.2.2.2.1.1, .float .f32 M.2.2.2.1.2.1, .float .f32 M.2.2.2.1.2.2, .float .f32 M.2.2.2.2] rfl rfl ?c19 ?c29 ?c39 ?c49 ?c59 ?_; (case c19 => exact World.news_of_block (cs := #[.complex .f32 M.1.1 M.1.2, .complex .f32 M.2.1.1 M.2.1.2, .complex .f32 M.2.2.1.1 M.2.2.1.2, .float .f32 M.2.2.2.1.1, .float .f32 M.2.2.2.1.2.1, .float .f32 M.2.2.2.1.2.2, .float .f32 M.2.2.2.2]) (t := 36) (fr := (0, 0)) (heap_alloc_new wc _)); (case c29 => simp [Value.oneCell']); (case c39 => unfold maxLen; omega); (case c49 => omega); (case c59 => (have := Below.size hB2; simp only [World.size_alloc]; omega)); intro v9 w9 hown9 hg9 hne9 hat9; simp only [World.size_alloc] at hat9; have GB9 := Lib.hid hg9; have OW9 := Lib.hid hown9; have BW9 := below_append hB2 OW2.out hg9; have NB9 := Lib.hid hat9; clear hown9 hg9 hne9 hat9)
          obtain ⟨G9, gc9, rfl⟩ := owns_slice OW9.out
          go_wp2
          go_roundw
          case rel =>
            have eL : (glassUp s.sh s.bs (kk + 1)).length = m + 1 := by rw [GU.out, ← YS.out, List.length_append, ← HM.out]; rfl
            refine ⟨kk + 1, G9, gc9, by omega, ?_, by go_num, ?_, BW9⟩
            · rw [eL]
            · rw [eL, GU.out, ← YS.out, ← HMM.out, flat_append]; exact OW9.out
          case measure => simp [intOf]; omega
    · obtain rfl : kk = n := by omega
      have yl : ys = ls := by rw [YS.out, LS.out]
      subst yl
      have hlen := HM.out
      subst hlen
      have co := COV.out.belB hBV LO.out
      have fo := FOV.out.belB hBV LO.out
      have lo : w.heap.size + 1 < wr.heap.size := Nat.lt_of_lt_of_le LO.out hBV.size
      have hrd := Lib.hid (Rd.of_own shC_len rfl hown)
      have a0 := ca 0 _ rfl; have a1 := ca 1 _ rfl; have a2 := ca 2 _ rfl; have a3 := ca 3 _ rfl; have a4 := ca 4 _ rfl; have a5 := ca 5 _ rfl; have a6 := ca 6 _ rfl; have a7 := ca 7 _ rfl; have a8 := ca 8 _ rfl; have a9 := ca 9 _ rfl; have a10 := ca 10 _ rfl; have a11 := ca 11 _ rfl
      clear hown
      go_wp2_with fail
      (with_reducible refine (KT.out _ _ _ hrd.out).mono ?_)
      rintro r w5 ⟨⟨A5, c5, rfl, own5⟩, hb5⟩
      clear a0 a1 a2 a3 a4 a5 a6 a7 a8 a9 a10 a11
      replace co := co.keep hb5
      replace fo := fo.keep hb5 lo
      have hW5 := then_ hWr hb5
      have OW5 := Lib.hid own5
      have lo5 := co.lt
      have o0 := co 0 _ rfl; have o1 := co 1 _ rfl
      have f0 := fo 0; have f1 := fo 1
      have CO := Lib.hid co
      have le1 : w.heap.size ≤ w.heap.size + 1 := Nat.le_succ _
      clear own5 co
      go_wp2
      clear o0 o1
      have co := (CO.out.put 0 (.int .i64 s.sz)).put 1 (.slice A5 N c5)
      have o0 := co 0 _ rfl; have o1 := co 1 _ rfl
      exact bodyPost_ret (v := .tuple #[.agg #[.int .i64 s.sz, .slice A5 N c5], .bool true]) (by simp [results, Tryz.results11, go_sem, o0, o1]) rfl ⟨⟨A5, c5, rfl, owns_mono (own_setp (own_setp OW5.out lo 0 _) lo 1 _) (by omega)⟩, (hW5.setCell (p := ⟨w.heap.size + 1, 0, none⟩) le1 _).setCell (p := ⟨w.heap.size + 1, 1, none⟩) le1 _⟩
end Go.Proofs.YthlphmojldbpkaaGreat
/- SymP -/
/- SymsOfPicture, both versions. -/
namespace Go.Proofs.YthlphmojldbpkaaGreat
open Go.RowKit
attribute [local go_sem] run_store_float run_store_complex
theorem actL_len (t : Int) (f : Bool) (s : Int) (xs : List Col) : (actL t f s xs).2.length ≤ xs.length := by
  unfold actL; split
  · show (actUp _ _ _ _ _).length ≤ _
    rw [actUp_len]; omega
  · simp
set_option maxRecDepth 100000 in
set_option maxHeartbeats 4000000 in
theorem keepF_any (t : Int) (f : Bool) (s : Int) (A : Option Addr) (n c : Nat) (xs : List Col) (b : Nat) (w : World) (hn : n ≤ maxLen) (h0 : w.cell? ⟨b, 0, none⟩ = some (.int .i64 s)) (h1 : w.cell? ⟨b, 1, none⟩ = some (.slice A n c)) (ha : Rd colC 3 w w.heap.size A n xs) :
    Calls Tryz.prog 54 #[.agg #[.int .i64 t, .bool f], .pointer (some ⟨b, 0, none⟩)] w fun e w' => e = .returned (.bool (!keepB s xs (t, f))) ∧ Below w.heap.size w w' := by
  obtain ⟨Q, hQ⟩ : ∃ Q, Q = actL t f s xs := ⟨_, rfl⟩
  have hr : keepB s xs (t, f) = sameP Q.1 Q.2 s xs := by rw [hQ]; rfl
  have hm : Q.2.length ≤ maxLen := by rw [hQ]; have := actL_len t f s xs; have := ha.1; omega
  have ki := fun A c w h => actPicture_any t f s A n c xs w hn h
  rw [← hQ] at ki
  have KI := Lib.hid ki
  have R := Lib.hid hr
  have lb := World.block_lt_of_cell? _ _ h0
  dsimp only at lb
  clear ki hQ hr
  obtain ⟨s2, ys⟩ := Q
  dsimp only at hm KI R
  go_enter Tryz.func54, Tryz.ntmps54
  go_wp2_with fail
  obtain ⟨W, hWe⟩ : ∃ W, W = w.alloc (Obj.cells #[.int .i64 t, .bool f] 58) := ⟨_, rfl⟩
  have hW : Below w.heap.size w W := by rw [hWe]; (repeat (first | with_reducible assumption | exact Below.refl _ _ | (refine Below.setCell ?_ (by first | exact Nat.le_refl _ | (simp; done) | omega | (simp; omega)) _) | (refine below_drewN ?_ _) | (refine Below.drew ?_) | (refine Below.alloc ?_ (by first | exact Nat.le_refl _ | (simp; done) | omega | (simp; omega)) _) | (refine then_ ?_ (by with_reducible assumption)) | assumption | (refine then_ ?_ (by assumption))))
  have zW : w.heap.size < W.heap.size := by rw [hWe]; simp
  have q0 : W.cell? ⟨w.heap.size, 0, none⟩ = some (.int .i64 t) := by rw [hWe]; simp [go_sem]
  have q1 : W.cell? ⟨w.heap.size, 1, none⟩ = some (.bool f) := by rw [hWe]; simp [go_sem]
  rw [← hWe]
  have e0 := keepC h0 hW
  have e1 := keepC h1 hW
  have lb' : b < W.heap.size := by omega
  have ra := ha.step hW
  clear hWe h0 h1
  go_region_held3 (fun w' => (∀ b o, b < W.heap.size → w'.cell? ⟨b, o, none⟩ = W.cell? ⟨b, o, none⟩) ∧ Below W.heap.size W w') (first | assumption | exact startS _ | exact stepS (by assumption) (by assumption)) (first | (go_at_call 55; refine (KI.out _ _ _ (ra.step ?_)).mono ?_; (repeat (first | with_reducible assumption | exact Below.refl _ _ | (refine Below.setCell ?_ (by first | exact Nat.le_refl _ | (simp; done) | omega | (simp; omega)) _) | (refine below_drewN ?_ _) | (refine Below.drew ?_) | (refine Below.alloc ?_ (by first | exact Nat.le_refl _ | (simp; done) | omega | (simp; omega)) _) | (refine then_ ?_ (by with_reducible assumption)) | assumption | (refine then_ ?_ (by assumption)))); rintro e w2 ⟨B2, d2, rfl, ho2, hb2⟩; have r2 := Rd.of_own colC_len rfl ho2; clear ho2) | (go_at_call 13; refine (samePicture_any _ _ _ _ _ _ _ _ ys xs _ hm hn (r2.step ?_) (ra.step ?_)).mono ?_; (repeat (first | with_reducible assumption | exact Below.refl _ _ | (refine Below.setCell ?_ (by first | exact Nat.le_refl _ | (simp; done) | omega | (simp; omega)) _) | (refine below_drewN ?_ _) | (refine Below.drew ?_) | (refine Below.alloc ?_ (by first | exact Nat.le_refl _ | (simp; done) | omega | (simp; omega)) _) | (refine then_ ?_ (by with_reducible assumption)) | assumption | (refine then_ ?_ (by assumption)))); (repeat (first | with_reducible assumption | exact Below.refl _ _ | (refine Below.setCell ?_ (by first | exact Nat.le_refl _ | (simp; done) | omega | (simp; omega)) _) | (refine below_drewN ?_ _) | (refine Below.drew ?_) | (refine Below.alloc ?_ (by first | exact Nat.le_refl _ | (simp; done) | omega | (simp; omega)) _) | (refine then_ ?_ (by with_reducible assumption)) | assumption | (refine then_ ?_ (by assumption)))); rintro e w3 ⟨rfl, hb3⟩))
  go_wp2
  go_ret
  exact ⟨by rw [R.out]; rfl, by (repeat (first | with_reducible assumption | exact Below.refl _ _ | (refine Below.setCell ?_ (by first | exact Nat.le_refl _ | (simp; done) | omega | (simp; omega)) _) | (refine below_drewN ?_ _) | (refine Below.drew ?_) | (refine Below.alloc ?_ (by first | exact Nat.le_refl _ | (simp; done) | omega | (simp; omega)) _) | (refine then_ ?_ (by with_reducible assumption)) | assumption | (refine then_ ?_ (by assumption))))⟩
/-- what IndexFunc tells of a list -/
def IdxI {α : Type} (keep : α → Bool) (l : List α) (i : Int) : Prop := (i = -1 ∧ l.filter keep = l) ∨ ∃ (k : Nat) (x : α), i = k ∧ l[k]? = some x ∧ keep x = false ∧ ∀ y ∈ l.take k, keep y = true
set_option maxRecDepth 100000 in
set_option maxHeartbeats 4000000 in
theorem indexSym_any (s : Int) (A : Option Addr) (n c : Nat) (xs : List Col) (b : Nat) (G : Option Addr) (m cc : Nat) (l : List (Int × Bool)) (w : World) (hn : n ≤ maxLen) (hm : m ≤ 8)
    (h0 : w.cell? ⟨b, 0, none⟩ = some (.int .i64 s)) (h1 : w.cell? ⟨b, 1, none⟩ = some (.slice A n c)) (ha : Rd colC 3 w w.heap.size A n xs) (hl : Rd symC 2 w w.heap.size G m l) :
    Calls Tryz.prog 96 #[.slice G m cc, .func (.func 54) #[] #[.pointer (some ⟨b, 0, none⟩)]] w fun e w' => (∃ i : Int, e = .returned (.int .i64 i) ∧ IdxI (keepB s xs) l i) ∧ Below w.heap.size w w' := by
  go_enter Tryz.func96, Tryz.ntmps96
  go_wp2
  go_loopw [5, 8] (fun _ i wr => ∃ k : Nat, k ≤ m ∧ i = .int .i64 k ∧ (∀ y ∈ l.take k, keepB s xs y = true) ∧ Below w.heap.size w wr) (fun _ i _ => m - (intOf i).toNat)
  case atStart => exact ⟨0, Nat.zero_le _, rfl, by simp, Below.refl _ _⟩
  case round =>
    obtain ⟨k, hk, rfl, hall, hw⟩ := hrel
    have HALL := Lib.hid hall
    clear hall
    by_cases hlt : k < m
    · obtain ⟨bb, off, t, f, rfl, hbl, hx, c0, c1⟩ := (hl.below hw).sym hlt
      have hki : (k : Int) < (m : Int) := by omega
      have hk0 : (0 : Int) ≤ (k : Int) := by omega
      have HX := Lib.hid hx
      clear hx
      have d0 := keepC h0 hw
      have d1 := keepC h1 hw
      have ra := ha.step hw
      cases hq : keepB s xs (t, f)
      · go_wp2_with (go_at_call 54; refine (keepF_any t f s A n c xs b _ hn (by assumption) (by assumption) (ra.step ?_)).mono ?_; (repeat (first | with_reducible assumption | exact Below.refl _ _ | (refine Below.setCell ?_ (by first | exact Nat.le_refl _ | (simp; done) | omega | (simp; omega)) _) | (refine below_drewN ?_ _) | (refine Below.drew ?_) | (refine Below.alloc ?_ (by first | exact Nat.le_refl _ | (simp; done) | omega | (simp; omega)) _) | (refine then_ ?_ (by with_reducible assumption)) | assumption | (refine then_ ?_ (by assumption)))); rintro e w1 ⟨rfl, hb1⟩; simp only [hq])
        go_ret
        exact ⟨⟨_, rfl, .inr ⟨k, (t, f), rfl, HX.out, hq, HALL.out⟩⟩, by (repeat (first | with_reducible assumption | exact Below.refl _ _ | (refine Below.setCell ?_ (by first | exact Nat.le_refl _ | (simp; done) | omega | (simp; omega)) _) | (refine below_drewN ?_ _) | (refine Below.drew ?_) | (refine Below.alloc ?_ (by first | exact Nat.le_refl _ | (simp; done) | omega | (simp; omega)) _) | (refine then_ ?_ (by with_reducible assumption)) | assumption | (refine then_ ?_ (by assumption))))⟩
      · go_wp2_with (go_at_call 54; refine (keepF_any t f s A n c xs b _ hn (by assumption) (by assumption) (ra.step ?_)).mono ?_; (repeat (first | with_reducible assumption | exact Below.refl _ _ | (refine Below.setCell ?_ (by first | exact Nat.le_refl _ | (simp; done) | omega | (simp; omega)) _) | (refine below_drewN ?_ _) | (refine Below.drew ?_) | (refine Below.alloc ?_ (by first | exact Nat.le_refl _ | (simp; done) | omega | (simp; omega)) _) | (refine then_ ?_ (by with_reducible assumption)) | assumption | (refine then_ ?_ (by assumption)))); rintro e w1 ⟨rfl, hb1⟩; simp only [hq])
        go_roundw
        case rel =>
          refine ⟨k + 1, by omega, by go_num, fun y hy => ?_, by (repeat (first | with_reducible assumption | exact Below.refl _ _ | (refine Below.setCell ?_ (by first | exact Nat.le_refl _ | (simp; done) | omega | (simp; omega)) _) | (refine below_drewN ?_ _) | (refine Below.drew ?_) | (refine Below.alloc ?_ (by first | exact Nat.le_refl _ | (simp; done) | omega | (simp; omega)) _) | (refine then_ ?_ (by with_reducible assumption)) | assumption | (refine then_ ?_ (by assumption))))⟩
          rw [List.take_add_one, HX.out] at hy
          rcases List.mem_append.1 hy with h | h
          · exact HALL.out y h
          · simp at h; subst h; exact hq
        case measure => simp [intOf]; omega
    · obtain rfl : k = m := by omega
      have hs : l.filter (keepB s xs) = l := by
        have := HALL.out
        rw [← hl.1, List.take_length] at this
        exact List.filter_eq_self.2 this
      go_wp2
      go_ret
      exact ⟨⟨-1, rfl, .inl ⟨rfl, hs⟩⟩, hw⟩
theorem zeroSym (w : World) : (zeroValue 58).run Tryz.prog w = .ok (.agg #[.int .i64 0, .bool false]) w := by kernel_rfl
set_option maxRecDepth 100000 in
set_option maxHeartbeats 8000000 in
theorem deleteSym_any (s : Int) (A : Option Addr) (n c : Nat) (xs : List Col) (b B : Nat) (G : Option Addr) (m cc : Nat) (l : List (Int × Bool)) (w : World) (hn : n ≤ maxLen) (hm : m ≤ 8) (hbB : b < B) (hB : B ≤ w.heap.size) (hml : l.length = m)
    (h0 : w.cell? ⟨b, 0, none⟩ = some (.int .i64 s)) (h1 : w.cell? ⟨b, 1, none⟩ = some (.slice A n c)) (ha : Rd colC 3 w B A n xs) (ho : w.ownsRow B 58 2 (.slice G m cc) m (flat symC l)) :
    Calls Tryz.prog 53 #[.slice G m cc, .func (.func 54) #[] #[.pointer (some ⟨b, 0, none⟩)]] w fun e w' => ∃ A' c', e = .returned (.slice A' (l.filter (keepB s xs)).length c') ∧ w'.ownsRow B 58 2 (.slice A' (l.filter (keepB s xs)).length c') (l.filter (keepB s xs)).length (flat symC (l.filter (keepB s xs))) ∧ Below B w w' := by
  have hl := Rd.of_own symC_len hml ho
  have OW := Lib.hid ho
  have ML := Lib.hid hml
  clear ho hml
  go_enter Tryz.func53, Tryz.ntmps53
  go_wp2_with fail
  refine (indexSym_any s A n c xs b G m cc l _ hn hm h0 h1 (ha.more hB) hl).mono ?_
  rintro e w1 ⟨⟨i0, rfl, hi0⟩, hb1⟩
  clear hl
  rcases hi0 with ⟨rfl, hall⟩ | ⟨i, x, rfl, hx, hq, hall⟩
  · go_wp2
    go_ret
    exact ⟨G, cc, by rw [hall, ML.out]; rfl, by rw [hall, ML.out]; exact owns_below OW.out hb1, hb1.mono hB⟩
  · have hlt : i < m := by have := (List.getElem?_eq_some_iff.1 hx).1; have := ML.out; omega
    have K0 := Lib.hid (KeptI.start hx hq hall)
    obtain ⟨g, rfl, hmc, hcm⟩ := owns_slice_at OW.out (by omega)
    have OW1 := Lib.hid (owns_below OW.out hb1)
    clear hx hq hall
    have hi1 : ((i : Int) == -1) = false := by simp
    have hB1 : Below B w w1 := hb1.mono hB
    clear hb1
    go_wp2
    go_loopw [5, 6] (fun s5 s6 wr => ∃ (i j : Nat) (zs : List (Int × Bool)), s5 = .int .i64 i ∧ s6 = .int .i64 j ∧ KeptI (keepB s xs) l zs i j ∧ wr.ownsRow B 58 2 (.slice (some ⟨g, 0, none⟩) m cc) m (flat symC zs) ∧ Below B w wr) (fun _ j _ => m - (intOf j).toNat)
    case atStart => exact ⟨i, i + 1, l, rfl, by go_num, K0.out, OW1.out, hB1⟩
    case round =>
      clear hB1 K0 hlt hi1
      obtain ⟨i, j, zs, rfl, rfl, hk, hown, hw⟩ := hrel
      have OWr := Lib.hid hown
      have KI := Lib.hid hk
      obtain ⟨k1, k2, k3, k4, k5⟩ := hk
      have hj : j ≤ m := by have := ML.out; omega
      have hzl : zs.length = m := by have := ML.out; omega
      have gl := (hown.lt g rfl).1
      have gl2 := (hown.lt g rfl).2
      have zw := hw.size
      have hij0 : (0 : Int) ≤ (i : Int) := by omega
      have hj0 : (0 : Int) ≤ (j : Int) := by omega
      by_cases hlt : j < m
      · have hjz : j < zs.length := by omega
        obtain ⟨x, hx⟩ : ∃ x, zs[j]? = some x := ⟨_, List.getElem?_eq_getElem hjz⟩
        have HX := Lib.hid (show l[j]? = some x by rw [← k5 j (Nat.le_refl _)]; exact hx)
        obtain ⟨t, f⟩ := x
        have c0 : wr.cell? ⟨g, j * 2, none⟩ = some (.int .i64 t) := by
          rw [hown.cellAt (j * 2) (by omega)]
          exact flat_get symC_len zs j _ hx 0 _ rfl
        have c1 : wr.cell? ⟨g, j * 2 + 1, none⟩ = some (.bool f) := by
          rw [hown.cellAt (j * 2 + 1) (by omega)]
          exact flat_get symC_len zs j _ hx 1 _ rfl
        have hji : (j : Int) < (m : Int) := by omega
        have him : (i : Int) < (m : Int) := by omega
        have d0 : wr.cell? ⟨b, 0, none⟩ = some (.int .i64 s) := (hw.cell (p := ⟨b, 0, none⟩) hbB).trans h0
        have d1 : wr.cell? ⟨b, 1, none⟩ = some (.slice A n c) := (hw.cell (p := ⟨b, 1, none⟩) hbB).trans h1
        have ra : Rd colC 3 wr wr.heap.size A n xs := (ha.below hw).more (by omega)
        obtain ⟨v0, hv0⟩ := owns_cell hown (i * 2) (by omega)
        obtain ⟨v1, hv1⟩ := owns_cell hown (i * 2 + 1) (by omega)
        clear hx k1 k2 k4 k5 hown
        go_wp2_with fail
        obtain ⟨W, hWe⟩ : ∃ W, W = wr.alloc (Obj.cells #[.int .i64 t, .bool f] 58) := ⟨_, rfl⟩
        have hW : Below wr.heap.size wr W := by rw [hWe]; (repeat (first | with_reducible assumption | exact Below.refl _ _ | (refine Below.setCell ?_ (by first | exact Nat.le_refl _ | (simp; done) | omega | (simp; omega)) _) | (refine below_drewN ?_ _) | (refine Below.drew ?_) | (refine Below.alloc ?_ (by first | exact Nat.le_refl _ | (simp; done) | omega | (simp; omega)) _) | (refine then_ ?_ (by with_reducible assumption)) | assumption | (refine then_ ?_ (by assumption))))
        have zW : wr.heap.size < W.heap.size := by rw [hWe]; simp
        have q0 : W.cell? ⟨wr.heap.size, 0, none⟩ = some (.int .i64 t) := by rw [hWe]; simp [go_sem]
        have q1 : W.cell? ⟨wr.heap.size, 1, none⟩ = some (.bool f) := by rw [hWe]; simp [go_sem]
        rw [← hWe]
        have e0 := keepC d0 hW
        have e1 := keepC d1 hW
        have OWW := Lib.hid (owns_below OWr.out hW)
        have ra' := ra.step hW
        clear hWe d0 d1 c0 c1 ra OWr
        refine (keepF_any t f s A n c xs b W hn e0 e1 ra').mono ?_
        rintro e w5 ⟨rfl, hb5⟩
        have q0 := keepC q0 hb5
        have q1 := keepC q1 hb5
        have OW5 := Lib.hid (owns_below OWW.out hb5)
        have z5 := hb5.size
        have hB5 : Below B w w5 := (hw.trans (hW.mono (by omega))).trans (hb5.mono (by omega))
        obtain ⟨v0, hv0⟩ := owns_cell OW5.out (i * 2) (by omega)
        obtain ⟨v1, hv1⟩ := owns_cell OW5.out (i * 2 + 1) (by omega)
        have hf0 := OW5.out.frozenAt (i * 2)
        have hf1 := OW5.out.frozenAt (i * 2 + 1)
        have n1 : ¬ wr.heap.size = g := by omega
        clear e0 e1 ra' OWW hb5 hW hw
        cases hq : keepB s xs (t, f)
        · go_wp2
          go_roundw
          case rel => exact ⟨i, j + 1, zs, rfl, by go_num, KI.out.drop HX.out hq, OW5.out, hB5⟩
          case measure => simp [intOf]; omega
        · go_wp2
          go_roundw
          case rel =>
            refine ⟨i + 1, j + 1, zs.set i (t, f), by go_num, by go_num, KI.out.keep HX.out hq, ?_, ?_⟩
            · rw [flat_set2 (by omega)]
              exact ((OW5.out.stored (i * 2) _).1.stored (i * 2 + 1) _).1
            · exact (hB5.setCell gl _).setCell gl _
          case measure => simp [intOf]; omega
      · obtain rfl : j = m := by omega
        have hd := KI.out.done ML.out.symm
        have him : i < j := by omega
        have him' : ¬ (j : Int) < (j : Int) := by omega
        have hii : (i : Int) ≤ (j : Int) := by omega
        have hcl := fun ty => run_clear_row (P := Tryz.prog) wr 64 58 ty (.agg #[.int .i64 0, .bool false]) Tryz.underlying64 zeroSym g (i * 2) (j - i) (cc - i) (by omega) (zeroCells_sym _)
          (fun k hk => by
            have hk : k < (j - i) * 2 := hk
            obtain ⟨v, hv⟩ := owns_cell hown (i * 2 + k) (by omega)
            rw [hv]; rfl) (fun k _ => hown.frozenAt _)
        clear hown k4 k5 KI
        go_wp2
        go_ret
        refine ⟨some ⟨g, 0, none⟩, cc, rfl, ?_, below_setCells gl _ _ _ hw⟩
        have o := own_beyonds (Builtin.zeroCells #[.int .i64 0, .bool false] (j - i)).toList (i * 2) _ (own_take OWr.out (Nat.le_of_lt him)) (Nat.le_refl _)
        rw [flat_take symC_len, hd.1] at o
        exact o
set_option maxRecDepth 100000 in
set_option maxHeartbeats 8000000 in
theorem symsOfPicture_any (s : Int) (A : Option Addr) (n c : Nat) (xs : List Col) (w : World) (hn : n ≤ maxLen) (ha : Rd colC 3 w w.heap.size A n xs) :
    Calls Tryz.prog 19 #[.agg #[.int .i64 s, .slice A n c]] w fun e w' => ∃ B d, e = .returned (.slice B (symsP s xs).length d) ∧ w'.ownsRow w.heap.size 58 2 (.slice B (symsP s xs).length d) (symsP s xs).length (flat symC (symsP s xs)) ∧ Below w.heap.size w w' := by
  cases h2 : pictB s xs
  · have R := Lib.hid (show symsP s xs = [] by simp [symsP, h2])
    go_enter Tryz.func19, Tryz.ntmps19
    go_wp2_with (go_at_call 18; refine (isPicture_any s A n c xs _ hn (ha.step ?_)).mono ?_; (repeat (first | with_reducible assumption | exact Below.refl _ _ | (refine Below.setCell ?_ (by first | exact Nat.le_refl _ | (simp; done) | omega | (simp; omega)) _) | (refine below_drewN ?_ _) | (refine Below.drew ?_) | (refine Below.alloc ?_ (by first | exact Nat.le_refl _ | (simp; done) | omega | (simp; omega)) _) | (refine then_ ?_ (by with_reducible assumption)) | assumption | (refine then_ ?_ (by assumption)))); rintro e w2 ⟨rfl, hb2⟩; simp only [h2])
    go_ret
    rw [R.out]
    exact ⟨none, 0, rfl, ⟨rfl, .inl ⟨rfl, rfl⟩⟩, by (repeat (first | with_reducible assumption | exact Below.refl _ _ | (refine Below.setCell ?_ (by first | exact Nat.le_refl _ | (simp; done) | omega | (simp; omega)) _) | (refine below_drewN ?_ _) | (refine Below.drew ?_) | (refine Below.alloc ?_ (by first | exact Nat.le_refl _ | (simp; done) | omega | (simp; omega)) _) | (refine then_ ?_ (by with_reducible assumption)) | assumption | (refine then_ ?_ (by assumption))))⟩
  · have R := Lib.hid (show symsP s xs = (symsL 3).filter (keepB s xs) by simp [symsP, h2])
    have L8 : (symsL 3).length = 8 := by decide
    go_enter Tryz.func19, Tryz.ntmps19
    go_wp2_with (go_at_call 18; refine (isPicture_any s A n c xs _ hn (ha.step ?_)).mono ?_; (repeat (first | with_reducible assumption | exact Below.refl _ _ | (refine Below.setCell ?_ (by first | exact Nat.le_refl _ | (simp; done) | omega | (simp; omega)) _) | (refine below_drewN ?_ _) | (refine Below.drew ?_) | (refine Below.alloc ?_ (by first | exact Nat.le_refl _ | (simp; done) | omega | (simp; omega)) _) | (refine then_ ?_ (by with_reducible assumption)) | assumption | (refine then_ ?_ (by assumption)))); rintro e w2 ⟨rfl, hb2⟩; simp only [h2]; have kc_0 := keepC (p := ⟨w.heap.size, 0, none⟩) (v := .int .i64 s) (by first | assumption | (simp [go_sem]; done) | (simp [go_sem, *]; done)) hb2; have kc_1 := keepC (p := ⟨w.heap.size, 1, none⟩) (v := .slice A n c) (by first | assumption | (simp [go_sem]; done) | (simp [go_sem, *]; done)) hb2; have lb_ := (show w.heap.size < _ from World.block_lt_of_cell? _ _ kc_0); have hW2 : Below w.heap.size w w2 := (by (repeat (first | with_reducible assumption | exact Below.refl _ _ | (refine Below.setCell ?_ (by first | exact Nat.le_refl _ | (simp; done) | omega | (simp; omega)) _) | (refine below_drewN ?_ _) | (refine Below.drew ?_) | (refine Below.alloc ?_ (by first | exact Nat.le_refl _ | (simp; done) | omega | (simp; omega)) _) | (refine then_ ?_ (by with_reducible assumption)) | assumption | (refine then_ ?_ (by assumption))))); have ra2 := ha.step hW2; clear hb2)
    refine (symsOf_any 3 _).mono ?_
    rintro e w3 ⟨G, cc, rfl, ho3, hb3⟩
    have kc_0 := keepC (p := ⟨w.heap.size, 0, none⟩) (v := .int .i64 s) (by first | assumption | (simp [go_sem]; done) | (simp [go_sem, *]; done)) hb3; have kc_1 := keepC (p := ⟨w.heap.size, 1, none⟩) (v := .slice A n c) (by first | assumption | (simp [go_sem]; done) | (simp [go_sem, *]; done)) hb3; have lb_ := (show w.heap.size < _ from World.block_lt_of_cell? _ _ kc_0)
    have ra3 := ra2.below hb3
    have O3 := Lib.hid ho3
    clear ho3
    rw [L8] at O3
    rw [L8]
    go_wp2_with fail
    refine (deleteSym_any s A n c xs w.heap.size w2.heap.size G 8 cc (symsL 3) _ hn (by omega) (by omega) hb3.size L8 (by assumption) (by assumption) ra3 O3.out).mono ?_
    rintro e w4 ⟨B, d, rfl, ho4, hb4⟩
    have z2 := hW2.size
    have O4 := Lib.hid ho4
    clear ho4
    go_wp2
    go_ret
    rw [R.out]
    exact ⟨B, d, rfl, owns_mono O4.out z2, (hW2.trans (hb3.mono z2)).trans (hb4.mono z2)⟩
end Go.Proofs.YthlphmojldbpkaaGreat
/- SymPS -/
/- SymsOfPicture, the reference's. -/
namespace Go.Proofs.YthlphmojldbpkaaGreat
open Go.RowKit
attribute [local go_sem] run_store_float run_store_complex
/-- the first m symmetries that are kept -/
def keptUp (s : Int) (xs : List Col) (m : Nat) : List (Int × Bool) := ((List.range m).map sym8).filter (fun g => pictB s xs && keepB s xs g)
theorem keptUp_len (s : Int) (xs : List Col) (m : Nat) : (keptUp s xs m).length ≤ m := by
  unfold keptUp
  exact Nat.le_trans (List.length_filter_le _ _) (by simp)
theorem symsL_3 : symsL 3 = (List.range 8).map sym8 := by decide
theorem keptUp_8 (s : Int) (xs : List Col) : keptUp s xs 8 = symsP s xs := by
  unfold keptUp symsP
  rw [← symsL_3]
  cases pictB s xs
  · simp
  · simp
end Go.Proofs.YthlphmojldbpkaaGreat
/- CellsP -/
/- Cells and the symmetries that take them to cells: plain arithmetic. No program. -/
namespace Go.Proofs.YthlphmojldbpkaaGreat
def cellOk (s k g : Nat) : Bool :=
  let q := cellI (s + 1) k (sym8 g).1 (sym8 g).2
  okCell (s + 1) q && decide (ptI (s + 1) q = aI (sym8 g).1 (sym8 g).2 (ptI (s + 1) k)) && decide (cellI (s + 1) q (backP (sym8 g).1 (sym8 g).2).1 (backP (sym8 g).1 (sym8 g).2).2 = k)
def cellsOk : Bool := (List.range 8).all fun s => (List.range ((s + 1) * (s + 1))).all fun k => (List.range 8).all fun g => cellOk s k g
theorem cellsOk_true : cellsOk = true := by decide +kernel
theorem cells_all (s k g : Nat) (hs : s < 8) (hk : k < (s + 1) * (s + 1)) (hg : g < 8) :
    okCell (s + 1) (cellI (s + 1) k (sym8 g).1 (sym8 g).2) = true ∧ ptI (s + 1) (cellI (s + 1) k (sym8 g).1 (sym8 g).2) = aI (sym8 g).1 (sym8 g).2 (ptI (s + 1) k) ∧
    cellI (s + 1) (cellI (s + 1) k (sym8 g).1 (sym8 g).2) (backP (sym8 g).1 (sym8 g).2).1 (backP (sym8 g).1 (sym8 g).2).2 = k := by
  have h := cellsOk_true
  unfold cellsOk at h
  have h1 := List.all_eq_true.1 h s (List.mem_range.2 hs)
  have h2 := List.all_eq_true.1 h1 k (List.mem_range.2 hk)
  have h3 := List.all_eq_true.1 h2 g (List.mem_range.2 hg)
  simp only [cellOk, Bool.and_eq_true, decide_eq_true_eq] at h3
  exact ⟨h3.1.1, h3.1.2, h3.2⟩
theorem back_ok : ∀ g : Nat, g < 8 → inB (backP (sym8 g).1 (sym8 g).2).1 0 3 = true := by decide
theorem okCell_of (s k : Nat) (hs : s < 8) (hk : k < (s + 1) * (s + 1)) : okCell (s + 1) k = true := by
  have h1 : ((k : Nat) : Int) < ((s + 1 : Nat) : Int) * ((s + 1 : Nat) : Int) := by
    have h : ((k : Nat) : Int) < (((s + 1) * (s + 1) : Nat) : Int) := Int.ofNat_lt.2 hk
    rwa [Int.natCast_mul] at h
  have e : ((s + 1 : Nat) : Int) = (s : Int) + 1 := by omega
  rw [e] at h1
  simp only [okCell, inB, Bool.and_eq_true, decide_eq_true_eq]
  exact ⟨⟨by omega, by omega⟩, by omega, by omega⟩
end Go.Proofs.YthlphmojldbpkaaGreat
/- PicP -/
/- Pictures in plain Lean: acting cell by cell, the same pictures, what keeps a picture. -/
namespace Go.Proofs.YthlphmojldbpkaaGreat
theorem sym_num {t : Int} {f : Bool} (h : inB t 0 3 = true) : ∃ g, g < 8 ∧ sym8 g = (t, f) := by
  obtain ⟨h0, h3⟩ := inB_true h
  have e : t = 0 ∨ t = 1 ∨ t = 2 ∨ t = 3 := by omega
  rcases e with rfl | rfl | rfl | rfl <;> cases f
  · exact ⟨0, by decide, by decide⟩
  · exact ⟨4, by decide, by decide⟩
  · exact ⟨1, by decide, by decide⟩
  · exact ⟨5, by decide, by decide⟩
  · exact ⟨2, by decide, by decide⟩
  · exact ⟨6, by decide, by decide⟩
  · exact ⟨3, by decide, by decide⟩
  · exact ⟨7, by decide, by decide⟩
/-- a picture of size q + 1 -/
def Pic (q : Nat) (xs : List Col) : Prop := q < 8 ∧ xs.length = (q + 1) * (q + 1) ∧ xs.all colB = true
theorem pic_of {s : Int} {xs : List Col} (h : pictB s xs = true) : ∃ q : Nat, s = (q : Int) + 1 ∧ Pic q xs := by
  unfold pictB at h
  simp only [Bool.and_eq_true, beq_iff_eq] at h
  obtain ⟨h1, h2, h3⟩ := h
  obtain ⟨b1, b2⟩ := inB_true h1
  refine ⟨(s - 1).toNat, by omega, by omega, ?_, h3⟩
  have e : s = (((s - 1).toNat + 1 : Nat) : Int) := by omega
  generalize (s - 1).toNat = q at e
  subst e
  rw [← Int.natCast_mul] at h2
  exact Int.ofNat.inj h2
theorem pic_ok {q : Nat} {xs : List Col} (h : Pic q xs) : pictB ((q : Int) + 1) xs = true := by
  obtain ⟨h1, h2, h3⟩ := h
  unfold pictB inB
  simp only [Bool.and_eq_true, beq_iff_eq, decide_eq_true_eq]
  refine ⟨⟨by omega, by omega⟩, ?_, h3⟩
  rw [h2, Int.natCast_mul]
  have e : ((q + 1 : Nat) : Int) = (q : Int) + 1 := by omega
  rw [e]
def toN (q k : Nat) (g : Int × Bool) : Nat := (cellI ((q : Int) + 1) k g.1 g.2).toNat
/-- the cell is one of the picture, and no other number -/
theorem toN_ok {q k : Nat} {g : Int × Bool} (hq : q < 8) (hk : k < (q + 1) * (q + 1)) (_hg : inB g.1 0 3 = true) : cellI ((q : Int) + 1) k g.1 g.2 = (toN q k g : Nat) ∧ toN q k g < (q + 1) * (q + 1) := by
  have h := cellI_bd (okCell_of q k hq hk) g.1 g.2
  have e : toN q k g = (cellI ((q : Int) + 1) k g.1 g.2).toNat := rfl
  refine ⟨by omega, ?_⟩
  have h2 : (toN q k g : Int) < (((q + 1) * (q + 1) : Nat) : Int) := by
    rw [Int.natCast_mul]
    have e2 : ((q + 1 : Nat) : Int) = (q : Int) + 1 := by omega
    rw [e2]; omega
  omega
theorem toN_back {q k : Nat} {g : Int × Bool} (hq : q < 8) (hk : k < (q + 1) * (q + 1)) (hg : inB g.1 0 3 = true) : toN q (toN q k g) (backP g.1 g.2) = k := by
  obtain ⟨n, hn, e⟩ := sym_num (f := g.2) hg
  have e : sym8 n = g := e
  have h := (cells_all q k n hq hk hn).2.2
  rw [e] at h
  have h1 := (toN_ok hq hk hg).1
  rw [h1] at h
  unfold toN at h ⊢
  rw [h]; simp
theorem back_in {g : Int × Bool} (hg : inB g.1 0 3 = true) : inB (backP g.1 g.2).1 0 3 = true := by
  obtain ⟨n, hn, e⟩ := sym_num (f := g.2) hg
  have e : sym8 n = g := e
  have := back_ok n hn
  rwa [e] at this
theorem toN_inj {q k k' : Nat} {g : Int × Bool} (hq : q < 8) (hk : k < (q + 1) * (q + 1)) (hk' : k' < (q + 1) * (q + 1)) (hg : inB g.1 0 3 = true) (h : toN q k g = toN q k' g) : k = k' := by
  rw [← toN_back hq hk hg, ← toN_back hq hk' hg, h]
/-! ### acting -/
theorem actUp_at {q : Nat} {xs : List Col} {g : Int × Bool} (hp : Pic q xs) (hg : inB g.1 0 3 = true) : ∀ m, m ≤ xs.length → ∀ k, k < m → (actUp ((q : Int) + 1) g.1 g.2 xs m)[toN q k g]? = xs[k]? := by
  obtain ⟨hq, hl, _⟩ := hp
  intro m
  induction m with
  | zero => intro _ k hk; omega
  | succ m ih =>
    intro hm k hk
    have hx : xs[m]? = some xs[m] := List.getElem?_eq_getElem (by omega)
    rw [actUp_succ hx]
    have e : (cellI ((q : Int) + 1) m g.1 g.2).toNat = toN q m g := rfl
    rw [e]
    by_cases h : k = m
    · subst h
      rw [List.getElem?_set_self (by rw [actUp_len]; have := (toN_ok (k := k) hq (by omega) hg).2; omega), hx]
    · rw [List.getElem?_set_ne (fun e => h (toN_inj hq (by omega) (by omega) hg e.symm))]
      exact ih (by omega) k (by omega)
theorem actL_eq {q : Nat} {xs : List Col} {g : Int × Bool} (hp : Pic q xs) (hg : inB g.1 0 3 = true) : actL g.1 g.2 ((q : Int) + 1) xs = ((q : Int) + 1, actUp ((q : Int) + 1) g.1 g.2 xs xs.length) := by
  unfold actL
  rw [hg, pic_ok hp]
  rfl
theorem act_at {q k : Nat} {xs : List Col} {g : Int × Bool} (hp : Pic q xs) (hg : inB g.1 0 3 = true) (hk : k < xs.length) : (actL g.1 g.2 ((q : Int) + 1) xs).2[toN q k g]? = xs[k]? := by
  rw [actL_eq hp hg]
  exact actUp_at hp hg _ (Nat.le_refl _) k hk
/-- read from behind -/
theorem act_at' {q k : Nat} {xs : List Col} {g : Int × Bool} (hp : Pic q xs) (hg : inB g.1 0 3 = true) (hk : k < xs.length) : ∃ j, j < xs.length ∧ toN q j g = k ∧ (actL g.1 g.2 ((q : Int) + 1) xs).2[k]? = xs[j]? := by
  have hb := back_in hg
  have hk' : k < (q + 1) * (q + 1) := by rw [← hp.2.1]; exact hk
  have h1 := toN_ok hp.1 hk' hb
  -- toN k back is the cell from which k comes
  have hj : toN q (toN q k (backP g.1 g.2)) g = k := by
    obtain ⟨n, hn, e⟩ := sym_num (f := g.2) hg
    have e : sym8 n = g := e
    have hbb : backP (backP g.1 g.2).1 (backP g.1 g.2).2 = g := by
      rw [← e]
      exact (show ∀ n : Nat, n < 8 → backP (backP (sym8 n).1 (sym8 n).2).1 (backP (sym8 n).1 (sym8 n).2).2 = sym8 n by decide) n hn
    have := toN_back hp.1 hk' hb
    rwa [hbb] at this
  have hlt : toN q k (backP g.1 g.2) < xs.length := by rw [hp.2.1]; exact h1.2
  refine ⟨_, hlt, hj, ?_⟩
  have := act_at hp hg hlt
  rwa [hj] at this
theorem act_pic {q : Nat} {xs : List Col} {g : Int × Bool} (hp : Pic q xs) (hg : inB g.1 0 3 = true) : Pic q (actL g.1 g.2 ((q : Int) + 1) xs).2 ∧ (actL g.1 g.2 ((q : Int) + 1) xs).1 = (q : Int) + 1 := by
  have hl : (actL g.1 g.2 ((q : Int) + 1) xs).2.length = xs.length := by rw [actL_eq hp hg]; exact actUp_len _ _ _ _ _
  refine ⟨⟨hp.1, by rw [hl]; exact hp.2.1, all_yes fun i x hx => ?_⟩, by rw [actL_eq hp hg]⟩
  have hi : i < xs.length := by have := (List.getElem?_eq_some_iff.1 hx).1; omega
  obtain ⟨j, hj, _, e⟩ := act_at' hp hg hi
  rw [hx] at e
  exact List.all_eq_true.1 hp.2.2 x (List.mem_of_getElem? e.symm)
/-! ### colours that are the same -/
def keyC (c : Col) : Int × Int × Int := (key c.1, key c.2.1, key c.2.2)
def atK (xs : List Col) (k : Nat) : Option (Int × Int × Int) := (xs[k]?).map keyC
theorem colEq_key {x y : Col} (hx : colB x = true) (hy : colB y = true) : colEqB x y = decide (keyC x = keyC y) := by
  unfold colB at hx hy
  simp only [Bool.and_eq_true] at hx hy
  unfold colEqB keyC
  rw [eqB_fin (part_fin hx.1) (part_fin hy.1), eqB_fin (part_fin hx.2.1) (part_fin hy.2.1), eqB_fin (part_fin hx.2.2) (part_fin hy.2.2)]
  rw [Bool.eq_iff_iff]
  simp [and_assoc]
theorem same_iff {xs ys : List Col} (hx : xs.all colB = true) (hy : ys.all colB = true) (hl : xs.length = ys.length) : sameCells xs ys = true ↔ ∀ k, k < xs.length → atK xs k = atK ys k := by
  constructor
  · intro h k hk
    have h1 : xs[k]? = some xs[k] := List.getElem?_eq_getElem hk
    have h2 : ys[k]? = some (ys[k]'(by omega)) := List.getElem?_eq_getElem (by omega)
    unfold atK
    rw [h1, h2]
    cases hq : colEqB xs[k] (ys[k]'(by omega))
    · rw [sameCells_no h1 h2 hq] at h; cases h
    · rw [colEq_key (List.all_eq_true.1 hx _ (List.mem_of_getElem? h1)) (List.all_eq_true.1 hy _ (List.mem_of_getElem? h2))] at hq
      simp only [decide_eq_true_eq] at hq
      simp [hq]
  · intro h
    refine sameCells_yes hl fun i x y h1 h2 => ?_
    rw [colEq_key (List.all_eq_true.1 hx _ (List.mem_of_getElem? h1)) (List.all_eq_true.1 hy _ (List.mem_of_getElem? h2))]
    have := h i (List.getElem?_eq_some_iff.1 h1).1
    unfold atK at this
    rw [h1, h2] at this
    simpa using this
theorem sameP_iff {s : Int} {xs ys : List Col} (hx : xs.all colB = true) (hy : ys.all colB = true) (hl : xs.length = ys.length) : sameP s xs s ys = true ↔ ∀ k, k < xs.length → atK xs k = atK ys k := by
  unfold sameP
  rw [beq_self_eq_true, Bool.true_and]
  exact same_iff hx hy hl
/-! ### what keeps a picture -/
theorem keep_iff {q : Nat} {xs : List Col} {g : Int × Bool} (hp : Pic q xs) (hg : inB g.1 0 3 = true) : keepB ((q : Int) + 1) xs g = true ↔ ∀ k, k < xs.length → atK xs (toN q k g) = atK xs k := by
  obtain ⟨h1, h2⟩ := act_pic hp hg
  have hl : (actL g.1 g.2 ((q : Int) + 1) xs).2.length = xs.length := by rw [h1.2.1, hp.2.1]
  unfold keepB
  rw [h2, sameP_iff h1.2.2 hp.2.2 hl]
  constructor
  · intro h k hk
    have h3 := (toN_ok hp.1 (by rw [← hp.2.1]; exact hk) hg).2
    rw [← hp.2.1] at h3
    rw [← h _ (by rw [hl]; exact h3)]
    unfold atK
    rw [act_at hp hg hk]
  · intro h k hk
    rw [hl] at hk
    obtain ⟨j, hj, e, e2⟩ := act_at' hp hg hk
    rw [← e, h j hj]
    unfold atK
    rw [e, e2]
end Go.Proofs.YthlphmojldbpkaaGreat
/- MirP -/
/- '==' on symmetries; slices.Contains; MirrorsOfPicture, the program's. -/
namespace Go.Proofs.YthlphmojldbpkaaGreat
open Go.RowKit
theorem symEq_fields (d : Nat) (t t' : Int) (f f' : Bool) (w : World) : (Op.eqFields (d + 1) #[.int .i64 t, .bool f] #[.int .i64 t', .bool f'] (Tryz.prog.fieldsOf 58).toList).run Tryz.prog w = .ok ((t, f) == (t', f')) w := by
  have h : ((t, f) == (t', f')) = (t == t' && f == f') := rfl
  rw [h]
  have k1 := fun wx d a b => run_equalIn_int (P := Tryz.prog) wx d 3 .i64 .i64 a b Tryz.underlying3
  have k2 := fun wx d a b => run_equalIn_bool' (P := Tryz.prog) wx d 4 a b Tryz.underlying4
  cases h1 : (t == t') <;> cases h2 : (f == f') <;> simp at h1 h2 <;> simp [go_sem, Tryz.underlying58, k1, k2, h1, h2]
theorem run_eql_sym (t t' : Int) (f f' : Bool) (w : World) : (binOp .eql 58 (.agg #[.int .i64 t, .bool f]) (.agg #[.int .i64 t', .bool f'])).run Tryz.prog w = .ok (.bool ((t, f) == (t', f'))) w := by
  rw [run_eql_struct]
  have ht : Tryz.prog.underlying 58 = some (.struct (Tryz.prog.fieldsOf 58)) := by kernel_rfl
  have hp : Tryz.prog.stoodInHeld 58 = false := by kernel_rfl
  rw [run_equalIn_agg (P := Tryz.prog) w 9999 58 _ _ ht hp, symEq_fields 9998]
  rfl
/-- whether a list holds a symmetry -/
def inS (l : List (Int × Bool)) (g : Int × Bool) : Bool := l.contains g
theorem contains_yes {l : List (Int × Bool)} {i : Nat} {g y : Int × Bool} (hx : l[i]? = some y) (h : (g == y) = true) : inS l g = true := by
  unfold inS
  rw [List.contains_iff_mem, beq_iff_eq.1 h]
  exact List.mem_of_getElem? hx
theorem contains_no {l : List (Int × Bool)} {g : Int × Bool} (h : ∀ (i : Nat) y, l[i]? = some y → (g == y) = false) : inS l g = false := by
  unfold inS
  cases hc : l.contains g
  · rfl
  · obtain ⟨i, hi⟩ := List.getElem?_of_mem (List.contains_iff_mem.1 hc)
    have := h i g hi
    simp at this
end Go.Proofs.YthlphmojldbpkaaGreat
/- MirS -/
/- MirrorsOfPicture, the reference's; both are the same. -/
namespace Go.Proofs.YthlphmojldbpkaaGreat
open Go.RowKit
theorem symsL_in3 : ∀ k : Nat, k < 4 → ∀ g ∈ symsL (k : Int), g ∈ symsL 3 := by decide
theorem inS_iff {l : List (Int × Bool)} {g : Int × Bool} : inS l g = true ↔ g ∈ l := by unfold inS; exact List.contains_iff_mem
end Go.Proofs.YthlphmojldbpkaaGreat
/- PicL -/
/- Pictures in plain Lean: acting one after the other; what keeps the acted picture. -/
namespace Go.Proofs.YthlphmojldbpkaaGreat
theorem mem_symsP {q : Nat} {xs : List Col} {g : Int × Bool} (hp : Pic q xs) : g ∈ symsP ((q : Int) + 1) xs ↔ g ∈ symsL 3 ∧ keepB ((q : Int) + 1) xs g = true := by
  unfold symsP
  rw [pic_ok hp, if_pos rfl, List.mem_filter]
end Go.Proofs.YthlphmojldbpkaaGreat
/- TakeL -/
/- Pictures taken of turned glass: plain, by keys. -/
namespace Go.Proofs.YthlphmojldbpkaaGreat
open Go.RowKit
def stepsOk : Bool := stepsL.all fun st => finB st && (stpB st && (List.range 17).all fun k => reachB (mulB (fl ((k : Int) - 8)) st))
theorem stepsOk_true : stepsOk = true := by decide +kernel
theorem step_facts {st : Nat} (h : st ∈ stepsL) : finB st = true ∧ stpB st = true ∧ ∀ n : Int, -8 ≤ n → n ≤ 8 → reachB (mulB (fl n) st) = true := by
  have h1 := List.all_eq_true.1 stepsOk_true st h
  simp only [Bool.and_eq_true] at h1
  refine ⟨h1.1, h1.2.1, fun n n1 n2 => ?_⟩
  have h2 := List.all_eq_true.1 h1.2.2 (n + 8).toNat (List.mem_range.2 (by omega))
  have e : (((n + 8).toNat : Nat) : Int) - 8 = n := by omega
  rw [e] at h2
  exact h2
theorem fl_key {n : Int} (h1 : -8 ≤ n) (h2 : n ≤ 8) : key (fl (-n)) = -key (fl n) ∧ finB (fl n) = true := by
  obtain ⟨a1, _, _, a4, _⟩ := small_at n h1 h2
  have hf := reach_fin a4
  rw [← a1]
  exact ⟨(neg_key hf).1, hf⟩
def scaleZ (st : Nat) (p : Int × Int) : Int × Int := (key (mulK (key (fl p.1)) (key st)), key (mulK (key (fl p.2)) (key st)))
theorem scale_rI {st : Nat} {p : Int × Int} (h : Sm 8 p) : scaleZ st (rI p) = rI (scaleZ st p) := by
  obtain ⟨a, b, c, d⟩ := h
  unfold scaleZ rI
  dsimp only
  rw [(fl_key c d).1, mulK_neg]
theorem scale_rIN {st : Nat} {p : Int × Int} (h : Sm 8 p) : ∀ n, scaleZ st (rIN n p) = rIN n (scaleZ st p)
  | 0 => rfl
  | n + 1 => by show scaleZ st (rI (rIN n p)) = rI (rIN n _); rw [scale_rI (rIN_sm h n), scale_rIN h n]
theorem scale_aI {st : Nat} {p : Int × Int} (h : Sm 8 p) (t : Int) (f : Bool) : scaleZ st (aI t f p) = aI t f (scaleZ st p) := by
  unfold aI
  cases f
  · exact scale_rIN h _
  · simp only [if_true]
    obtain ⟨a, b, c, d⟩ := h
    rw [scale_rIN (p := (p.1, -p.2)) ⟨a, b, by dsimp only; omega, by dsimp only; omega⟩]
    unfold scaleZ
    dsimp only
    rw [(fl_key c d).1, mulK_neg]
theorem spot_facts {st : Nat} {s i : Int} (hst : st ∈ stepsL) (hc : okCell s i = true) : keyP (spotP st s i) = scaleZ st (ptI s i) ∧ pointB (spotP st s i).1 (spotP st s i).2 = true := by
  obtain ⟨s1, s2, _⟩ := okCell_bd hc
  obtain ⟨a, b, c, d⟩ := (ptI_sm hc).mono (c := 8) (by omega)
  obtain ⟨h1, _, h3⟩ := step_facts hst
  refine ⟨?_, ?_⟩
  · unfold keyP spotP scaleZ
    dsimp only
    rw [mul_keys (fl_key a b).2 h1, mul_keys (fl_key c d).2 h1]
  · unfold pointB spotP
    dsimp only
    rw [h3 _ a b, h3 _ c d]; rfl
theorem take_pic {kind : Int} {q st : Nat} {ls : List Sh} {light : Col} (hq : q < 8) (hok : ls.all okSh = true) (hc : colB light = true) : Pic q (takeUp kind ((q : Int) + 1) st ls light ((q + 1) * (q + 1))) := by
  refine ⟨hq, takeUp_len _ _ _ _ _ _, ?_⟩
  rw [List.all_eq_true]
  intro x hx
  unfold takeUp at hx
  obtain ⟨i, _, rfl⟩ := List.mem_map.1 hx
  exact seen_col hok hc
theorem takeUp_at {kind s : Int} {st : Nat} {ls : List Sh} {light : Col} {N k : Nat} (hk : k < N) : (takeUp kind s st ls light N)[k]? = some (takeC kind s st ls light k) := by
  unfold takeUp
  rw [List.getElem?_map, List.getElem?_range hk]
  rfl
end Go.Proofs.YthlphmojldbpkaaGreat
/- InvL -/
/- What the symmetries of mirrors leave: two points of a wedge with the same images are the same. -/
namespace Go.Proofs.YthlphmojldbpkaaGreat
open Go.RowKit
/-- what the symmetries of mirrors leave -/
def Inv (kind : Int) (p q : Int × Int) : Prop :=
  if kind = 0 then p = q else if kind = 1 then p.1 = q.1 ∧ p.2.natAbs = q.2.natAbs
  else if kind = 2 then p.1.natAbs = q.1.natAbs ∧ p.2.natAbs = q.2.natAbs
  else (p.1.natAbs = q.1.natAbs ∧ p.2.natAbs = q.2.natAbs) ∨ (p.1.natAbs = q.2.natAbs ∧ p.2.natAbs = q.1.natAbs)
theorem inv0 {p q : Int × Int} : Inv 0 p q ↔ p = q := by unfold Inv; simp
theorem inv1 {a b : Int} {q : Int × Int} : Inv 1 (a, b) q ↔ a = q.1 ∧ b.natAbs = q.2.natAbs := by unfold Inv; simp
theorem inv2 {a b : Int} {q : Int × Int} : Inv 2 (a, b) q ↔ a.natAbs = q.1.natAbs ∧ b.natAbs = q.2.natAbs := by unfold Inv; simp
theorem inv3 {a b : Int} {q : Int × Int} : Inv 3 (a, b) q ↔ (a.natAbs = q.1.natAbs ∧ b.natAbs = q.2.natAbs) ∨ (a.natAbs = q.2.natAbs ∧ b.natAbs = q.1.natAbs) := by unfold Inv; simp
theorem inv_step {kind : Int} (hk : inB kind 0 3 = true) {g : Int × Bool} (hg : g ∈ symsL kind) {p q : Int × Int} (h : Inv kind p q) : Inv kind (aI g.1 g.2 p) q := by
  obtain ⟨x, y⟩ := p
  rcases kinds hk with rfl | rfl | rfl | rfl
  · rw [syms0] at hg
    simp only [List.mem_cons, List.not_mem_nil, or_false] at hg
    subst hg
    exact h
  · rw [syms1] at hg
    simp only [List.mem_cons, List.not_mem_nil, or_false] at hg
    rw [inv1] at h
    rcases hg with rfl | rfl <;> dsimp only <;> rw [show ∀ f, aI 0 f (x, y) = (x, if f then -y else y) from fun f => rfl] <;> rw [inv1] <;> simp <;> omega
  · rw [syms2] at hg
    simp only [List.mem_cons, List.not_mem_nil, or_false] at hg
    rw [inv2] at h
    rcases hg with rfl | rfl | rfl | rfl <;> dsimp only <;> simp only [a00, a20, a01, a21] <;> rw [inv2] <;> omega
  · rw [syms3] at hg
    simp only [List.mem_cons, List.not_mem_nil, or_false] at hg
    rw [inv3] at h
    rcases hg with rfl | rfl | rfl | rfl | rfl | rfl | rfl | rfl <;> dsimp only <;> simp only [a00, a10, a20, a30, a01, a11, a21, a31] <;> rw [inv3] <;> omega
theorem inv_refl {kind : Int} (hk : inB kind 0 3 = true) (p : Int × Int) : Inv kind p p := by
  obtain ⟨x, y⟩ := p
  rcases kinds hk with rfl | rfl | rfl | rfl
  · exact inv0.2 rfl
  · exact inv1.2 ⟨rfl, rfl⟩
  · exact inv2.2 ⟨rfl, rfl⟩
  · exact inv3.2 (.inl ⟨rfl, rfl⟩)
/-- two points of a wedge that have the same images are the same -/
theorem inv_side {kind : Int} (hk : inB kind 0 3 = true) {p q r : Int × Int} (hp : sideI kind p = true) (hq : sideI kind q = true) (h1 : Inv kind p r) (h2 : Inv kind q r) : p = q := by
  obtain ⟨x, y⟩ := p
  obtain ⟨a, b⟩ := q
  rcases kinds hk with rfl | rfl | rfl | rfl
  · rw [inv0] at h1 h2
    rw [h1, h2]
  · rw [inv1] at h1 h2
    simp [sideI] at hp hq
    rw [Prod.mk.injEq]; omega
  · rw [inv2] at h1 h2
    simp [sideI] at hp hq
    rw [Prod.mk.injEq]; omega
  · rw [inv3] at h1 h2
    simp [sideI] at hp hq
    rw [Prod.mk.injEq]; omega
end Go.Proofs.YthlphmojldbpkaaGreat
/- DrawPic -/
/- The draw of a picture. -/
namespace Go.Proofs.YthlphmojldbpkaaGreat
open Go.RowKit
attribute [local go_sem] run_store_float run_store_complex
theorem spread_pic {q : Nat} {xs : List Col} {kk : Nat} (hp : Pic q xs) (hk : kk < 4) : spreadL (kk : Int) ((q : Int) + 1) xs = ((q : Int) + 1, spreadUp (kk : Int) ((q : Int) + 1) xs xs.length) ∧ Pic q (spreadUp (kk : Int) ((q : Int) + 1) xs xs.length) := by
  have h1 : inB (kk : Int) 0 3 = true := by unfold inB; simp; omega
  refine ⟨by unfold spreadL; rw [h1, pic_ok hp]; rfl, hp.1, by rw [spreadUp_len]; exact hp.2.1, all_yes fun i x hx => ?_⟩
  unfold spreadUp at hx
  have hi : i < xs.length := by have := (List.getElem?_eq_some_iff.1 hx).1; simpa using this
  rw [List.getElem?_map, List.getElem?_range hi] at hx
  simp only [Option.map_some, Option.some.injEq] at hx
  have hb := firstI_bd (kind := (kk : Int)) (okCell_of q i hp.1 (by rw [← hp.2.1]; exact hi))
  have hj : (firstI (kk : Int) ((q : Int) + 1) (i : Int)).toNat < xs.length := by omega
  rw [List.getD_eq_getElem?_getD, List.getElem?_eq_getElem hj] at hx
  simp only [Option.getD_some] at hx
  rw [← hx]
  exact List.all_eq_true.1 hp.2.2 _ (List.getElem_mem _)
end Go.Proofs.YthlphmojldbpkaaGreat
/- TakenL -/
/- A picture taken between mirrors has the symmetries of the mirrors: plain, by keys. -/
namespace Go.Proofs.YthlphmojldbpkaaGreat
open Go.RowKit
/-- the spot, folded, is the same for all cells that the mirrors show -/
theorem fold_same {kind : Int} (hk : inB kind 0 3 = true) {z z' : Pt} (hz : pointB z.1 z.2 = true) (hz' : pointB z'.1 z'.2 = true) {g : Int × Bool} (hg : g ∈ symsL kind) (h : keyP z' = aI g.1 g.2 (keyP z)) :
    keyP (foldP kind z').1 = keyP (foldP kind z).1 ∧ finP (foldP kind z).1 ∧ finP (foldP kind z').1 := by
  obtain ⟨a, ha, fa, sa⟩ := firstG_some hk (keyP z)
  obtain ⟨b, hb, fb, sb⟩ := firstG_some hk (keyP z')
  rw [foldP_g hz fa, foldP_g hz' fb]
  dsimp only
  obtain ⟨k1, k2⟩ := actP_key (f := a.2) (symsL_in a ha) hz
  obtain ⟨k3, k4⟩ := actP_key (f := b.2) (symsL_in b hb) hz'
  refine ⟨?_, k2, k4⟩
  rw [k1, k3]
  refine inv_side hk sb sa ?_ (inv_step hk ha (inv_refl hk (keyP z)))
  rw [h]
  exact inv_step hk hb (inv_step hk hg (inv_refl hk (keyP z)))
theorem take_sym {kind q k st : Nat} {g : Int × Bool} {ls : List Sh} {light : Col} (hk4 : kind < 4) (hg : g ∈ symsL (kind : Int)) (hq : q < 8) (hk : k < (q + 1) * (q + 1)) (hst : st ∈ stepsL) (hok : ls.all okSh = true) :
    takeC (kind : Int) ((q : Int) + 1) st ls light (toN q k g) = takeC (kind : Int) ((q : Int) + 1) st ls light k := by
  have hki : inB (kind : Int) 0 3 = true := by unfold inB; simp; omega
  obtain ⟨t, f⟩ := g
  have ht : inB t 0 3 = true := symsL_in (t, f) hg
  obtain ⟨n, hn8, e⟩ := sym_num (f := f) ht
  obtain ⟨c1, c2, _⟩ := cells_all q k n hq hk hn8
  rw [e] at c1 c2
  dsimp only at c1 c2
  have c0 := okCell_of q k hq hk
  have hn := (toN_ok (q := q) (k := k) (g := (t, f)) hq hk ht).1
  dsimp only at hn
  rw [hn] at c1 c2
  obtain ⟨k1, k2⟩ := spot_facts hst c0
  obtain ⟨k3, k4⟩ := spot_facts hst c1
  have hsm := (ptI_sm c0).mono (c := 8) (by have := (okCell_bd c0).2.1; omega)
  obtain ⟨e1, e2, e3⟩ := fold_same hki k2 k4 hg (by rw [k3, k1, c2, scale_aI hsm])
  unfold takeC
  refine seen_turn (t := 0) (f := false) e2 e3 (by rw [e1]; rfl) ls ls rfl (fun i s s' hs hs' => ?_) light
  rw [hs] at hs'
  injection hs' with hs'
  subst hs'
  obtain ⟨o1, o2, o3, _, _⟩ := okSh_parts (List.all_eq_true.1 hok s (List.mem_of_getElem? hs))
  exact ⟨⟨point_fin o1, point_fin o2, point_fin o3⟩, ⟨point_fin o1, point_fin o2, point_fin o3⟩, rfl, rfl, rfl, rfl⟩
/-- what a picture taken between mirrors of a kind is -/
def TakenP (kind q : Nat) (xs : List Col) : Prop := Pic q xs ∧ ∀ k, k < (q + 1) * (q + 1) → ∀ g ∈ symsL (kind : Int), atK xs (toN q k g) = atK xs k
theorem taken_p {kind q st : Nat} {ls : List Sh} {light : Col} (hk4 : kind < 4) (hq : q < 8) (hst : st ∈ stepsL) (hok : ls.all okSh = true) (hc : colB light = true) :
    TakenP kind q (takeUp (kind : Int) ((q : Int) + 1) st ls light ((q + 1) * (q + 1))) := by
  refine ⟨take_pic hq hok hc, fun k hk g hg => ?_⟩
  have ht : inB g.1 0 3 = true := symsL_in g hg
  have h2 := (toN_ok (q := q) (k := k) (g := g) hq hk ht).2
  unfold atK
  rw [takeUp_at h2, takeUp_at hk, take_sym hk4 hg hq hk hst hok]
theorem taken_keep {kind q : Nat} {xs : List Col} (h : TakenP kind q xs) {g : Int × Bool} (hg : g ∈ symsL (kind : Int)) : keepB ((q : Int) + 1) xs g = true := by
  have ht : inB g.1 0 3 = true := symsL_in g hg
  rw [keep_iff h.1 ht]
  intro k hk
  rw [h.1.2.1] at hk
  exact h.2 k hk g hg
theorem taken_has {kind q : Nat} {xs : List Col} (hk4 : kind < 4) (h : TakenP kind q xs) {g : Int × Bool} (hg : g ∈ symsL (kind : Int)) : inS (symsP ((q : Int) + 1) xs) g = true := by
  rw [inS_iff, mem_symsP h.1]
  exact ⟨symsL_in3 kind hk4 g hg, taken_keep h hg⟩
def firstOk (kind q : Nat) : Bool := (List.range ((q + 1) * (q + 1))).all fun k => (symsL (kind : Int)).any fun g => decide (firstI (kind : Int) ((q : Int) + 1) (k : Int) = cellI ((q : Int) + 1) (k : Int) g.1 g.2)
theorem first_all : ∀ kind : Nat, kind < 4 → ∀ q : Nat, q < 6 → firstOk kind q = true := by decide +kernel
theorem first_cell {kind q k : Nat} (hk4 : kind < 4) (hq : q < 6) (hk : k < (q + 1) * (q + 1)) : ∃ g ∈ symsL (kind : Int), (firstI (kind : Int) ((q : Int) + 1) (k : Int)).toNat = toN q k g := by
  have h := List.all_eq_true.1 (first_all kind hk4 q hq) k (List.mem_range.2 hk)
  obtain ⟨g, hg, he⟩ := List.any_eq_true.1 h
  refine ⟨g, hg, ?_⟩
  rw [of_decide_eq_true he]
  rfl
theorem taken_spread {kind q : Nat} {xs : List Col} (hk4 : kind < 4) (hq : q < 6) (h : TakenP kind q xs) : sameP ((q : Int) + 1) xs ((q : Int) + 1) (spreadUp (kind : Int) ((q : Int) + 1) xs xs.length) = true := by
  have hpz := (spread_pic h.1 hk4).2
  rw [sameP_iff h.1.2.2 hpz.2.2 (by rw [spreadUp_len])]
  intro k hk
  have hk' : k < (q + 1) * (q + 1) := by rw [← h.1.2.1]; exact hk
  obtain ⟨g, hg, e⟩ := first_cell hk4 hq hk'
  have ht : inB g.1 0 3 = true := symsL_in g hg
  have h2 := (toN_ok (q := q) (k := k) (g := g) (by omega) hk' ht).2
  rw [← h.2 k hk' g hg]
  unfold atK spreadUp
  rw [List.getElem?_map, List.getElem?_range hk]
  simp only [Option.map_some]
  rw [e, List.getD_eq_getElem?_getD, List.getElem?_eq_getElem (show toN q k g < xs.length by rw [h.1.2.1]; exact h2)]
  rfl
end Go.Proofs.YthlphmojldbpkaaGreat
/- SeenL -/
/- What is seen in a drawn show: plain. -/
namespace Go.Proofs.YthlphmojldbpkaaGreat
open Go.RowKit
theorem stepsD_L {st : Nat} (h : st ∈ stepsD) : st ∈ stepsL := by
  have : ∀ x ∈ stepsD, x ∈ stepsL := by decide
  exact this st h
theorem seen_size {u : Shw} (hd : Drawn u) : ∃ N : Nat, u.sz * u.sz = (N : Int) ∧ N ≤ maxLen ∧ ∃ q : Nat, u.sz = (q : Int) + 1 ∧ q < 6 ∧ N = (q + 1) * (q + 1) := by
  obtain ⟨h1, h2⟩ := inB_true hd.good.sz
  have h3 := hd.szl
  obtain ⟨q, hq⟩ : ∃ q : Nat, u.sz = (q : Int) + 1 := ⟨(u.sz - 1).toNat, by omega⟩
  have hq6 : q < 6 := by omega
  refine ⟨(q + 1) * (q + 1), ?_, ?_, q, hq, hq6, rfl⟩
  · rw [hq]; push_cast; rfl
  · have : (q + 1) * (q + 1) ≤ 6 * 6 := Nat.mul_le_mul (by omega) (by omega)
    unfold maxLen; omega
theorem seen_all {u : Shw} {N : Nat} {xs : List Col} (hd : Drawn u) (hN : ∃ q : Nat, u.sz = (q : Int) + 1 ∧ q < 6 ∧ N = (q + 1) * (q + 1)) (hxs : xs = takeUp u.mir u.sz u.st (glassUp u.sh u.bs u.sh.length) u.li N) :
    xs.length = N ∧ spreadOk u.mir u.sz xs = true ∧ spreadL u.mir u.sz xs = (u.sz, spreadUp u.mir u.sz xs xs.length) ∧ (spreadUp u.mir u.sz xs xs.length).length = N ∧ sameP u.sz xs u.sz (spreadUp u.mir u.sz xs xs.length) = true ∧ (∀ g ∈ symsL u.mir, inS (symsP u.sz xs) g = true) ∧ pictB u.sz xs = true ∧ xs.all colB = true := by
  obtain ⟨q, hq, hq6, hNN⟩ := hN
  obtain ⟨m0, m3⟩ := inB_true hd.good.mir
  obtain ⟨K, hK⟩ : ∃ K : Nat, u.mir = (K : Int) := ⟨u.mir.toNat, by omega⟩
  have hK4 : K < 4 := by omega
  have TP : TakenP K q xs := by
    rw [hxs, hK, hq, hNN]
    exact taken_p hK4 (by omega) (stepsD_L hd.stl) (glassUp_ok _ _ _) hd.good.li
  have hl : xs.length = N := by rw [hxs]; exact takeUp_len _ _ _ _ _ _
  obtain ⟨sp1, sp2⟩ := spread_pic TP.1 hK4
  rw [hK, hq]
  refine ⟨hl, ?_, sp1, by rw [spreadUp_len]; exact hl, taken_spread hK4 hq6 TP, fun g hg => taken_has hK4 TP hg, pic_ok TP.1, TP.1.2.2⟩
  unfold spreadOk
  rw [pic_ok TP.1]
  rw [show inB (K : Int) 0 3 = true by unfold inB; simp; omega]
  rfl
theorem Rd.size {α : Type} {enc : α → List Value} {sz : Nat} {w : World} {B : Nat} {A : Option Addr} {n : Nat} {xs : List α} (_ : Rd enc sz w B A n xs) : True := trivial
theorem Rd.alloc {α : Type} {enc : α → List Value} {sz : Nat} {w : World} {A : Option Addr} {n : Nat} {xs : List α} (h : Rd enc sz w w.heap.size A n xs) (_ : True) (o : Obj) : Rd enc sz (w.alloc o) (w.alloc o).heap.size A n xs := h.step (Below.alloc (Below.refl _ _) (Nat.le_refl _) _)
end Go.Proofs.YthlphmojldbpkaaGreat
/- FmtP -/
/- FormatPicture, both versions. -/
namespace Go.Proofs.YthlphmojldbpkaaGreat
open Go.RowKit
attribute [local go_sem] run_store_float run_store_complex
def bsC (l : List UInt8) : List Value := [.string ⟨l.toArray⟩]
theorem bsC_len (l : List UInt8) : (bsC l).length = 1 := rfl
theorem infoStr : (Tryz.prog.info? 9).map (fun i => (i.zero, i.size, i.bytes)) = some (some (.string ⟨#[]⟩), 1, 16) := by kernel_rfl
/-- the text of i cells of a row that begins at cell b -/
def rowUp (xs : List Col) (b : Nat) : Nat → List UInt8
  | 0 => []
  | i + 1 => (if 0 < i then rowUp xs b i ++ [32] else rowUp xs b i) ++ colS (xs.getD (b + i) (0, 0, 0))
theorem rowUp_len (xs : List Col) (b : Nat) : ∀ i, (rowUp xs b i).length = 4 * i - 1
  | 0 => rfl
  | 1 => rfl
  | i + 2 => by
    have h := rowUp_len xs b (i + 1)
    have h3 : ∀ c : Col, (colS c).length = 3 := fun _ => rfl
    unfold rowUp
    rw [if_pos (by omega), List.length_append, List.length_append, h, h3]
    simp; omega
def fmtUp (S : Nat) (xs : List Col) (k : Nat) : List (List UInt8) := (List.range k).map (fun j => rowUp xs (j * S) S)
theorem fmtUp_succ (S : Nat) (xs : List Col) (k : Nat) : fmtUp S xs (k + 1) = fmtUp S xs k ++ [rowUp xs (k * S) S] := by
  unfold fmtUp; rw [List.range_succ, List.map_append]; rfl
theorem fmtUp_len (S : Nat) (xs : List Col) (k : Nat) : (fmtUp S xs k).length = k := by simp [fmtUp]
def fmtL (s : Int) (xs : List Col) : List (List UInt8) := if pictB s xs then fmtUp s.toNat xs s.toNat else []
set_option maxRecDepth 100000 in
set_option maxHeartbeats 8000000 in
theorem formatPicture_any (s : Int) (A : Option Addr) (n c : Nat) (xs : List Col) (w : World) (hn : n ≤ maxLen) (ha : Rd colC 3 w w.heap.size A n xs) :
    Calls Tryz.prog 56 #[.agg #[.int .i64 s, .slice A n c]] w fun e w' => ∃ B d, e = .returned (.slice B (fmtL s xs).length d) ∧ w'.ownsRow w.heap.size 9 1 (.slice B (fmtL s xs).length d) (fmtL s xs).length (flat bsC (fmtL s xs)) ∧ Below w.heap.size w w' := by
  obtain ⟨i0, hi, hz0, hz1, hz2⟩ := info_parts infoStr
  cases h2 : pictB s xs
  · have R := Lib.hid (show fmtL s xs = [] by simp [fmtL, h2])
    go_enter Tryz.func56, Tryz.ntmps56
    go_wp2_with (go_at_call 18; refine (isPicture_any s A n c xs _ hn (ha.step ?_)).mono ?_; (repeat (first | with_reducible assumption | exact Below.refl _ _ | (refine Below.setCell ?_ (by first | exact Nat.le_refl _ | (simp; done) | omega | (simp; omega)) _) | (refine below_drewN ?_ _) | (refine Below.drew ?_) | (refine Below.alloc ?_ (by first | exact Nat.le_refl _ | (simp; done) | omega | (simp; omega)) _) | (refine then_ ?_ (by with_reducible assumption)) | assumption | (refine then_ ?_ (by assumption)))); rintro e w2 ⟨rfl, hb2⟩; simp only [h2])
    go_ret
    rw [R.out]
    exact ⟨none, 0, rfl, ⟨rfl, .inl ⟨rfl, rfl⟩⟩, by (repeat (first | with_reducible assumption | exact Below.refl _ _ | (refine Below.setCell ?_ (by first | exact Nat.le_refl _ | (simp; done) | omega | (simp; omega)) _) | (refine below_drewN ?_ _) | (refine Below.drew ?_) | (refine Below.alloc ?_ (by first | exact Nat.le_refl _ | (simp; done) | omega | (simp; omega)) _) | (refine then_ ?_ (by with_reducible assumption)) | assumption | (refine then_ ?_ (by assumption))))⟩
  · obtain ⟨q, rfl, hp⟩ := pic_of h2
    obtain ⟨hq8, hlen, hcol⟩ := hp
    have HC := Lib.hid hcol
    obtain ⟨S, hS⟩ : ∃ S, S = q + 1 := ⟨_, rfl⟩
    have R := Lib.hid (show fmtL ((q : Int) + 1) xs = fmtUp S xs S by
      have e : ((q : Int) + 1).toNat = S := by omega
      unfold fmtL; rw [h2, if_pos rfl, e])
    have hnS : n = S * S := by rw [← ha.1, hlen, hS]
    have hSi : (q : Int) + 1 = (S : Int) := by omega
    rw [hSi] at h2 R ⊢
    have hS8 : S ≤ 8 := by omega
    have hS1 : 1 ≤ S := by omega
    have NS := Lib.hid hnS
    have HL := Lib.hid ha.1
    clear hSi hS hcol hq8 hlen hnS
    go_enter Tryz.func56, Tryz.ntmps56
    go_wp2_with (go_at_call 18; refine (isPicture_any (S : Int) A n c xs _ hn (ha.step ?_)).mono ?_; (repeat (first | with_reducible assumption | exact Below.refl _ _ | (refine Below.setCell ?_ (by first | exact Nat.le_refl _ | (simp; done) | omega | (simp; omega)) _) | (refine below_drewN ?_ _) | (refine Below.drew ?_) | (refine Below.alloc ?_ (by first | exact Nat.le_refl _ | (simp; done) | omega | (simp; omega)) _) | (refine then_ ?_ (by with_reducible assumption)) | assumption | (refine then_ ?_ (by assumption)))); rintro e w1 ⟨rfl, hb1⟩; simp only [h2]; have kc_0 := keepC (p := ⟨w.heap.size, 0, none⟩) (v := .int .i64 (S : Int)) (by first | assumption | (simp [go_sem]; done) | (simp [go_sem, *]; done)) hb1; have kc_1 := keepC (p := ⟨w.heap.size, 1, none⟩) (v := .slice A n c) (by first | assumption | (simp [go_sem]; done) | (simp [go_sem, *]; done)) hb1; have lb_ := (show w.heap.size < _ from World.block_lt_of_cell? _ _ kc_0); have hW1 : Below w.heap.size w w1 := (by (repeat (first | with_reducible assumption | exact Below.refl _ _ | (refine Below.setCell ?_ (by first | exact Nat.le_refl _ | (simp; done) | omega | (simp; omega)) _) | (refine below_drewN ?_ _) | (refine Below.drew ?_) | (refine Below.alloc ?_ (by first | exact Nat.le_refl _ | (simp; done) | omega | (simp; omega)) _) | (refine then_ ?_ (by with_reducible assumption)) | assumption | (refine then_ ?_ (by assumption))))); have ra := ha.step hW1; clear hb1)
    obtain ⟨V, hVe⟩ : ∃ V, V = w1.alloc (Obj.cells #[] 9) := ⟨_, rfl⟩
    have hV : Below w1.heap.size w1 V := by rw [hVe]; (repeat (first | with_reducible assumption | exact Below.refl _ _ | (refine Below.setCell ?_ (by first | exact Nat.le_refl _ | (simp; done) | omega | (simp; omega)) _) | (refine below_drewN ?_ _) | (refine Below.drew ?_) | (refine Below.alloc ?_ (by first | exact Nat.le_refl _ | (simp; done) | omega | (simp; omega)) _) | (refine then_ ?_ (by with_reducible assumption)) | assumption | (refine then_ ?_ (by assumption))))
    have o0 : V.ownsRow w1.heap.size 9 1 (.slice (some ⟨w1.heap.size, 0, none⟩) 0 0) 0 [] := by
      rw [hVe]
      exact World.ownsRow_lit (base := w1.heap.size) w1 #[] 0 (Nat.le_refl _) (by simp [maxLen]) rfl
    rw [← hVe]
    clear hVe
    have O0 := Lib.hid o0
    clear o0
    have p0 := kc_0
    have p1 := kc_1
    clear kc_0 kc_1
    go_loopw [3, 13] (fun v i wr => ∃ k : Nat, k ≤ S ∧ i = .int .i64 k ∧ (∃ B d, v = .slice B k d) ∧ wr.ownsRow w1.heap.size 9 1 v k (flat bsC (fmtUp S xs k)) ∧ Below w1.heap.size w1 wr) (fun _ i _ => S - (intOf i).toNat)
    case atStart => exact ⟨0, by omega, rfl, ⟨_, _, rfl⟩, O0.out, hV⟩
    case round =>
      clear O0 hV
      obtain ⟨k, hk, rfl, ⟨B1, d1, rfl⟩, hown, hw⟩ := hrel
      have OW := Lib.hid hown
      clear hown
      by_cases hlt : k < S
      · have hki : (k : Int) < (S : Int) := by omega
        have hk0 : (0 : Int) ≤ (k : Int) := by omega
        have e0 := keepC p0 hw
        have e1 := keepC p1 hw
        obtain ⟨M, hM⟩ : ∃ M, M = k * S := ⟨_, rfl⟩
        have hMi : (k : Int) * (S : Int) = (M : Int) := by rw [hM, Int.natCast_mul]
        have hMb : M + S ≤ n := by
          rw [NS.out, hM]
          have : (k + 1) * S ≤ S * S := Nat.mul_le_mul_right _ hlt
          rw [Nat.add_mul] at this; omega
        have hn64 : n ≤ 64 := by rw [NS.out]; exact Nat.mul_le_mul hS8 hS8
        have HM := Lib.hid hM
        clear hM
        go_wp2_with fail
        have HW := Lib.hid hw
        clear hw e0 e1
        go_loopw [5, 18] (fun v i wx => ∃ j : Nat, j ≤ S ∧ i = .int .i64 j ∧ v = .string ⟨(rowUp xs M j).toArray⟩ ∧ wx.ownsRow w1.heap.size 9 1 (.slice B1 k d1) k (flat bsC (fmtUp S xs k)) ∧ Below w1.heap.size w1 wx) (fun _ i _ => S - (intOf i).toNat)
        case atStart => exact ⟨0, by omega, rfl, rfl, OW.out, HW.out⟩
        case round =>
          clear HW OW
          obtain ⟨j, hj, rfl, rfl, hown, hw⟩ := hrel
          have OW := Lib.hid hown
          clear hown
          by_cases hlj : j < S
          · have hji : (j : Int) < (S : Int) := by omega
            have hj0 : (0 : Int) ≤ (j : Int) := by omega
            have e0 := keepC p0 hw
            have e1 := keepC p1 hw
            obtain ⟨I, hI⟩ : ∃ I, I = M + j := ⟨_, rfl⟩
            have hwr : IntKind.i64.wrap ((M : Int) + (j : Int)) = (I : Int) := by rw [IntKind.wrap_i64]; omega
            obtain ⟨bb, off, r, g, l, rfl, hbl, hx, c0, c1, c2⟩ := (ra.below hw).col (show I < n by omega)
            have hxc := List.all_eq_true.1 HC.out _ (List.mem_of_getElem? hx)
            have hgd : xs.getD (M + j) (0, 0, 0) = (r, g, l) := by rw [← hI, List.getD_eq_getElem?_getD, hx]; rfl
            have hixn : (I : Int) < (n : Int) := by omega
            have hix0 : (0 : Int) ≤ (I : Int) := by omega
            obtain ⟨T, hT⟩ : ∃ T, T = rowUp xs M j := ⟨_, rfl⟩
            have hTl : T.length ≤ 100 := by rw [hT, rowUp_len]; omega
            rw [← hT]
            obtain ⟨Cl, hCl⟩ : ∃ Cl, Cl = colS (r, g, l) := ⟨_, rfl⟩
            have hCll : Cl.length ≤ 100 := by rw [hCl]; show 3 ≤ 100; omega
            have kf := fun w => formatColour_any r g l w hxc
            rw [← hCl] at kf
            have KF := Lib.hid kf
            have a1 : ∀ wx, (Op.stringOp .add ⟨T.toArray⟩ ⟨#[32]⟩).run Tryz.prog wx = .ok (.string ⟨(T ++ [32]).toArray⟩) wx := fun wx => strAdd (P := Tryz.prog) T [32] (by omega) (by decide) wx
            have a2 := fun wx => strAdd (P := Tryz.prog) (T ++ [32]) Cl (by simp; omega) (by omega) wx
            have a3 := fun wx => strAdd (P := Tryz.prog) T Cl (by omega) (by omega) wx
            have E1 := Lib.hid (show 0 < j → rowUp xs M (j + 1) = T ++ [32] ++ Cl by intro h; unfold rowUp; rw [if_pos h, hgd, ← hT, ← hCl])
            have E2 := Lib.hid (show ¬ 0 < j → rowUp xs M (j + 1) = T ++ Cl by intro h; unfold rowUp; rw [if_neg h, hgd, ← hT, ← hCl])
            clear hx hT hCl kf hgd hxc hI
            by_cases hj1 : (0 : Int) < (j : Int)
            · clear a3
              go_wp2_with (go_at_call 57; refine (KF.out _).mono ?_; rintro e w5 ⟨rfl, hb5⟩)
              go_roundw
              case rel => exact ⟨j + 1, by omega, by go_num, by rw [E1.out (by omega)]; simp, owns_below OW.out hb5, then_ hw hb5⟩
              case measure => simp [intOf]; omega
            · clear a1 a2
              go_wp2_with (go_at_call 57; refine (KF.out _).mono ?_; rintro e w5 ⟨rfl, hb5⟩)
              go_roundw
              case rel => exact ⟨j + 1, by omega, by go_num, by rw [E2.out (by omega)], owns_below OW.out hb5, then_ hw hb5⟩
              case measure => simp [intOf]; omega
          · obtain rfl : j = S := by omega
            have ST := Lib.hid (fmtUp_succ j xs k)
            obtain ⟨T, hT⟩ : ∃ T, T = rowUp xs M j := ⟨_, rfl⟩
            have TT := Lib.hid hT
            rw [← hT]
            clear hT
            go_wp2_with (at_builtin; refine wpList_append_own_at _ rfl _ _ 68 rfl w1.heap.size 9 i0 (.string default) 1 16 Tryz.underlying68 hi hz0 hz1 hz2 rfl (by decide) _ _ _ rfl (OW.out.alloc _) ⟨wr.heap.size, 0, none⟩ 1 1 [.string ⟨T.toArray⟩] rfl rfl ?c13 ?c23 ?c33 ?c43 ?c53 ?_; (case c13 => exact World.news_of_block (cs := #[.string ⟨T.toArray⟩]) (t := 9) (fr := (0, 0)) (heap_alloc_new wr _)); (case c23 => simp [Value.oneCell']); (case c33 => unfold maxLen; omega); (case c43 => omega); (case c53 => (have := Below.size hw; simp only [World.size_alloc]; omega)); intro v3 w3 hown3 hg3 hne3 hat3; simp only [World.size_alloc] at hat3; have GB3 := Lib.hid hg3; have OW3 := Lib.hid hown3; have BW3 := below_append hw OW.out hg3; have NB3 := Lib.hid hat3; clear hown3 hg3 hne3 hat3)
            go_roundw
            case rel =>
              obtain ⟨A3, c3, rfl⟩ := owns_slice OW3.out
              refine ⟨k + 1, by omega, by go_num, ⟨_, _, rfl⟩, ?_, BW3⟩
              rw [ST.out, flat_append, ← HM.out, ← TT.out]
              exact OW3.out
            case measure => simp [intOf]; omega
      · obtain rfl : k = S := by omega
        go_wp2
        go_ret
        rw [R.out, fmtUp_len]
        exact ⟨B1, d1, rfl, owns_mono OW.out hW1.size, then_ hW1 hw⟩
end Go.Proofs.YthlphmojldbpkaaGreat
/- Ask -/
/- AskShow: the program's, at three questions. -/
namespace Go.Proofs.YthlphmojldbpkaaGreat
open Go.RowKit
attribute [local go_sem] run_store_float run_store_complex
set_option maxRecDepth 100000 in
set_option maxHeartbeats 16000000 in
theorem askPic_any (s : Shw) (S B L : Option Addr) (k d q N : Nat) (xs : List Col) (w : World) (hg : Good s) (hk : okS s = true) (hN : s.sz * s.sz = (N : Int)) (hN64 : N ≤ maxLen) (hxs : xs = takeUp s.mir s.sz s.st (glassUp s.sh s.bs s.sh.length) s.li N) (hp : pictB s.sz xs = true) (hr : RdS w s S B L) :
    Calls Tryz.prog 22 #[.agg #[.int .i64 s.sz, .float .f32 s.st, .float .f32 s.li.1, .float .f32 s.li.2.1, .float .f32 s.li.2.2, .slice S s.sh.length k, .int .i64 s.mir, .complex .f32 s.gr.1 s.gr.2, .float .f32 s.loss, .slice B s.bs.length d, .int .i64 s.tk, .slice L s.log.length q], .string ⟨#[112, 105, 99, 116, 117, 114, 101]⟩] w fun r w' => (∃ B d, r = .returned (.slice B s.sz.toNat d)) ∧ Below w.heap.size w w' := by
  obtain ⟨p1, p2, p3, p4⟩ := okS_parts.1 hk
  have hl := hg.len
  obtain ⟨i0, hi, hz0, hz1, hz2⟩ := info_parts infoStr
  have KI := Lib.hid (fun w (h : RdS w s S B L) => isShow_any s S B L s.sh.length k s.bs.length d s.log.length q w hg (by omega) (by omega) (by omega) h.1 h.2.1 h.2.2)
  rw [hk] at KI
  have K1 := Lib.hid (fun w h => seenIn_any s S B L k d q N w hg hk hN h)
  rw [← hxs] at K1
  have LX := Lib.hid (show xs.length = N by rw [hxs]; exact takeUp_len _ _ _ _ _ _)
  have HR := Lib.hid hr
  have HG := Lib.hid hg
  have HP := Lib.hid hp
  have P1 := Lib.hid p1
  clear hr hg hk p1 p2 p3 p4 hl hN hxs hp
  go_enter Tryz.func22, Tryz.ntmps22
  go_upto_region 1 with fail
  have hW := Below.refl w.heap.size w
  have ca := CA.new w #[.int .i64 s.sz, .float .f32 s.st, .float .f32 s.li.1, .float .f32 s.li.2.1, .float .f32 s.li.2.2, .slice S s.sh.length k, .int .i64 s.mir, .complex .f32 s.gr.1 s.gr.2, .float .f32 s.loss, .slice B s.bs.length d, .int .i64 s.tk, .slice L s.log.length q] 34; have fa := FA.new w #[.int .i64 s.sz, .float .f32 s.st, .float .f32 s.li.1, .float .f32 s.li.2.1, .float .f32 s.li.2.2, .slice S s.sh.length k, .int .i64 s.mir, .complex .f32 s.gr.1 s.gr.2, .float .f32 s.loss, .slice B s.bs.length d, .int .i64 s.tk, .slice L s.log.length q] 34; replace hW := hW.alloc (hW.size) (Obj.cells #[.int .i64 s.sz, .float .f32 s.st, .float .f32 s.li.1, .float .f32 s.li.2.1, .float .f32 s.li.2.2, .slice S s.sh.length k, .int .i64 s.mir, .complex .f32 s.gr.1 s.gr.2, .float .f32 s.loss, .slice B s.bs.length d, .int .i64 s.tk, .slice L s.log.length q] 34); obtain ⟨V1, hV1e⟩ : ∃ V1, V1 = w.alloc (Obj.cells #[.int .i64 s.sz, .float .f32 s.st, .float .f32 s.li.1, .float .f32 s.li.2.1, .float .f32 s.li.2.2, .slice S s.sh.length k, .int .i64 s.mir, .complex .f32 s.gr.1 s.gr.2, .float .f32 s.loss, .slice B s.bs.length d, .int .i64 s.tk, .slice L s.log.length q] 34) := ⟨_, rfl⟩; have zV1 : V1.heap.size = w.heap.size + 1 := (by rw [hV1e]; simp); rw [← hV1e] at ca fa hW; rw [← hV1e]; clear hV1e; have la := ca.lt
  clear zV1
  have a0 := ca 0 _ rfl; have a1 := ca 1 _ rfl; have a2 := ca 2 _ rfl; have a3 := ca 3 _ rfl; have a4 := ca 4 _ rfl; have a5 := ca 5 _ rfl; have a6 := ca 6 _ rfl; have a7 := ca 7 _ rfl; have a8 := ca 8 _ rfl; have a9 := ca 9 _ rfl; have a10 := ca 10 _ rfl; have a11 := ca 11 _ rfl
  go_wp2_with fail
  (with_reducible refine (KI.out _ (HR.out.step hW)).mono ?_)
  rintro r w1 ⟨rfl, hb1⟩
  clear a0 a1 a2 a3 a4 a5 a6 a7 a8 a9 a10 a11 KI
  replace ca := ca.keep hb1; replace fa := fa.keep hb1 la; replace la := ca.lt; replace hW := then_ hW hb1
  clear hb1
  go_upto_region 4 with fail
  have o0 : (w1.alloc (Obj.cells #[] 9)).ownsRow w.heap.size 9 1 (.slice (some ⟨w1.heap.size, 0, none⟩) 0 0) 0 [] := World.ownsRow_lit (base := w.heap.size) (size := 1) (e := 9) w1 #[] 0 hW.size (by simp [maxLen]) rfl
  have hal : Below w1.heap.size w1 (w1.alloc (Obj.cells #[] 9)) := by (with_reducible exact Below.alloc (Below.refl _ _) (Nat.le_refl _) _)
  replace ca := ca.keep hal; replace fa := fa.keep hal la; replace la := ca.lt; replace hW := then_ hW hal
  have zal : w1.heap.size < (w1.alloc (Obj.cells #[] 9)).heap.size := by simp
  obtain ⟨W, hWe⟩ : ∃ W, W = w1.alloc (Obj.cells #[] 9) := ⟨_, rfl⟩
  rw [← hWe] at o0 ca fa la hW zal
  rw [← hWe]
  clear hWe hal
  have zw1 : w1.heap.size < W.heap.size := zal
  have a0 := ca 0 _ rfl; have a1 := ca 1 _ rfl; have a2 := ca 2 _ rfl; have a3 := ca 3 _ rfl; have a4 := ca 4 _ rfl; have a5 := ca 5 _ rfl; have a6 := ca 6 _ rfl; have a7 := ca 7 _ rfl; have a8 := ca 8 _ rfl; have a9 := ca 9 _ rfl; have a10 := ca 10 _ rfl; have a11 := ca 11 _ rfl
  go_wp2_with fail
  (with_reducible refine (K1.out _ (HR.out.step hW)).mono ?_)
  rintro r w2 ⟨⟨A5, c5, rfl, o5⟩, hb2⟩
  have rP := Rd.of_own colC_len LX.out o5
  clear a0 a1 a2 a3 a4 a5 a6 a7 a8 a9 a10 a11 K1 o5
  replace o0 := owns_below o0 hb2
  have zw2 : w1.heap.size < w2.heap.size := Nat.lt_of_lt_of_le zw1 hb2.size
  replace ca := ca.keep hb2; replace fa := fa.keep hb2 la; replace la := ca.lt; replace hW := then_ hW hb2
  clear hb2 zw1 zal
  go_upto_region 5 with fail
  have o0' := o0.alloc (Obj.cells #[.int .i64 s.sz, .slice A5 N c5] 47)
  have cp := CA.new w2 #[.int .i64 s.sz, .slice A5 N c5] 47
  have hal : Below w2.heap.size w2 (w2.alloc (Obj.cells #[.int .i64 s.sz, .slice A5 N c5] 47)) := by (with_reducible exact Below.alloc (Below.refl _ _) (Nat.le_refl _) _)
  replace rP := rP.step hal
  have zX1 : w1.heap.size < (w2.alloc (Obj.cells #[.int .i64 s.sz, .slice A5 N c5] 47)).heap.size := Nat.lt_of_lt_of_le zw2 hal.size
  replace ca := ca.keep hal; replace fa := fa.keep hal la; replace la := ca.lt; replace hW := then_ hW hal
  obtain ⟨X, hX⟩ : ∃ X, X = w2.alloc (Obj.cells #[.int .i64 s.sz, .slice A5 N c5] 47) := ⟨_, rfl⟩
  rw [← hX] at o0' cp rP ca fa la hW zX1
  rw [← hX]
  clear hX hal o0
  have OX := Lib.hid o0'
  have RP := Lib.hid rP
  have lp := cp.lt
  clear o0' rP
  have KF := Lib.hid (fun A c w h => formatPicture_any s.sz A N c xs w hN64 h)
  have FL := Lib.hid (show (fmtL s.sz xs).length = s.sz.toNat by unfold fmtL; rw [if_pos HP.out]; exact fmtUp_len _ _ _)
  rw [FL.out] at KF
  have p0 := cp 0 _ rfl; have p1 := cp 1 _ rfl
  go_wp2_with fail
  (with_reducible refine (KF.out _ _ _ RP.out).mono ?_)
  rintro r w3 ⟨B3, d3, rfl, o3, hb3⟩
  have hW3 := then_ hW hb3
  clear o3 hb3
  go_wp2
  go_ret
  exact ⟨⟨_, _, rfl⟩, hW3⟩
set_option maxRecDepth 100000 in
set_option maxHeartbeats 16000000 in
theorem askSym_any (s : Shw) (S B L : Option Addr) (k d q N : Nat) (xs : List Col) (w : World) (hg : Good s) (hk : okS s = true) (hN : s.sz * s.sz = (N : Int)) (hN64 : N ≤ maxLen) (hxs : xs = takeUp s.mir s.sz s.st (glassUp s.sh s.bs s.sh.length) s.li N) (hp : pictB s.sz xs = true) (hin : ∀ g ∈ symsP s.sz xs, inB g.1 0 3 = true) (h0 : 0 < (symsP s.sz xs).length) (hr : RdS w s S B L) :
    Calls Tryz.prog 22 #[.agg #[.int .i64 s.sz, .float .f32 s.st, .float .f32 s.li.1, .float .f32 s.li.2.1, .float .f32 s.li.2.2, .slice S s.sh.length k, .int .i64 s.mir, .complex .f32 s.gr.1 s.gr.2, .float .f32 s.loss, .slice B s.bs.length d, .int .i64 s.tk, .slice L s.log.length q], .string ⟨#[115, 121, 109, 109, 101, 116, 114, 105, 101, 115]⟩] w fun r w' => (∃ B d, r = .returned (.slice B (symsP s.sz xs).length d) ∧ w'.ownsRow w.heap.size 9 1 (.slice B (symsP s.sz xs).length d) (symsP s.sz xs).length (flat bsC ((symsP s.sz xs).map symS))) ∧ Below w.heap.size w w' := by
  obtain ⟨p1, p2, p3, p4⟩ := okS_parts.1 hk
  have hl := hg.len
  obtain ⟨i0, hi, hz0, hz1, hz2⟩ := info_parts infoStr
  have KI := Lib.hid (fun w (h : RdS w s S B L) => isShow_any s S B L s.sh.length k s.bs.length d s.log.length q w hg (by omega) (by omega) (by omega) h.1 h.2.1 h.2.2)
  rw [hk] at KI
  have K1 := Lib.hid (fun w h => seenIn_any s S B L k d q N w hg hk hN h)
  rw [← hxs] at K1
  have LX := Lib.hid (show xs.length = N by rw [hxs]; exact takeUp_len _ _ _ _ _ _)
  have HR := Lib.hid hr
  have HG := Lib.hid hg
  have HP := Lib.hid hp
  have P1 := Lib.hid p1
  clear hr hg hk p1 p2 p3 p4 hl hN hxs hp
  go_enter Tryz.func22, Tryz.ntmps22
  go_upto_region 1 with fail
  have hW := Below.refl w.heap.size w
  have ca := CA.new w #[.int .i64 s.sz, .float .f32 s.st, .float .f32 s.li.1, .float .f32 s.li.2.1, .float .f32 s.li.2.2, .slice S s.sh.length k, .int .i64 s.mir, .complex .f32 s.gr.1 s.gr.2, .float .f32 s.loss, .slice B s.bs.length d, .int .i64 s.tk, .slice L s.log.length q] 34; have fa := FA.new w #[.int .i64 s.sz, .float .f32 s.st, .float .f32 s.li.1, .float .f32 s.li.2.1, .float .f32 s.li.2.2, .slice S s.sh.length k, .int .i64 s.mir, .complex .f32 s.gr.1 s.gr.2, .float .f32 s.loss, .slice B s.bs.length d, .int .i64 s.tk, .slice L s.log.length q] 34; replace hW := hW.alloc (hW.size) (Obj.cells #[.int .i64 s.sz, .float .f32 s.st, .float .f32 s.li.1, .float .f32 s.li.2.1, .float .f32 s.li.2.2, .slice S s.sh.length k, .int .i64 s.mir, .complex .f32 s.gr.1 s.gr.2, .float .f32 s.loss, .slice B s.bs.length d, .int .i64 s.tk, .slice L s.log.length q] 34); obtain ⟨V1, hV1e⟩ : ∃ V1, V1 = w.alloc (Obj.cells #[.int .i64 s.sz, .float .f32 s.st, .float .f32 s.li.1, .float .f32 s.li.2.1, .float .f32 s.li.2.2, .slice S s.sh.length k, .int .i64 s.mir, .complex .f32 s.gr.1 s.gr.2, .float .f32 s.loss, .slice B s.bs.length d, .int .i64 s.tk, .slice L s.log.length q] 34) := ⟨_, rfl⟩; have zV1 : V1.heap.size = w.heap.size + 1 := (by rw [hV1e]; simp); rw [← hV1e] at ca fa hW; rw [← hV1e]; clear hV1e; have la := ca.lt
  clear zV1
  have a0 := ca 0 _ rfl; have a1 := ca 1 _ rfl; have a2 := ca 2 _ rfl; have a3 := ca 3 _ rfl; have a4 := ca 4 _ rfl; have a5 := ca 5 _ rfl; have a6 := ca 6 _ rfl; have a7 := ca 7 _ rfl; have a8 := ca 8 _ rfl; have a9 := ca 9 _ rfl; have a10 := ca 10 _ rfl; have a11 := ca 11 _ rfl
  go_wp2_with fail
  (with_reducible refine (KI.out _ (HR.out.step hW)).mono ?_)
  rintro r w1 ⟨rfl, hb1⟩
  clear a0 a1 a2 a3 a4 a5 a6 a7 a8 a9 a10 a11 KI
  replace ca := ca.keep hb1; replace fa := fa.keep hb1 la; replace la := ca.lt; replace hW := then_ hW hb1
  clear hb1
  go_upto_region 4 with fail
  have o0 : (w1.alloc (Obj.cells #[] 9)).ownsRow w.heap.size 9 1 (.slice (some ⟨w1.heap.size, 0, none⟩) 0 0) 0 [] := World.ownsRow_lit (base := w.heap.size) (size := 1) (e := 9) w1 #[] 0 hW.size (by simp [maxLen]) rfl
  have hal : Below w1.heap.size w1 (w1.alloc (Obj.cells #[] 9)) := by (with_reducible exact Below.alloc (Below.refl _ _) (Nat.le_refl _) _)
  replace ca := ca.keep hal; replace fa := fa.keep hal la; replace la := ca.lt; replace hW := then_ hW hal
  have zal : w1.heap.size < (w1.alloc (Obj.cells #[] 9)).heap.size := by simp
  obtain ⟨W, hWe⟩ : ∃ W, W = w1.alloc (Obj.cells #[] 9) := ⟨_, rfl⟩
  rw [← hWe] at o0 ca fa la hW zal
  rw [← hWe]
  clear hWe hal
  have zw1 : w1.heap.size < W.heap.size := zal
  have a0 := ca 0 _ rfl; have a1 := ca 1 _ rfl; have a2 := ca 2 _ rfl; have a3 := ca 3 _ rfl; have a4 := ca 4 _ rfl; have a5 := ca 5 _ rfl; have a6 := ca 6 _ rfl; have a7 := ca 7 _ rfl; have a8 := ca 8 _ rfl; have a9 := ca 9 _ rfl; have a10 := ca 10 _ rfl; have a11 := ca 11 _ rfl
  go_wp2_with fail
  (with_reducible refine (K1.out _ (HR.out.step hW)).mono ?_)
  rintro r w2 ⟨⟨A5, c5, rfl, o5⟩, hb2⟩
  have rP := Rd.of_own colC_len LX.out o5
  clear a0 a1 a2 a3 a4 a5 a6 a7 a8 a9 a10 a11 K1 o5
  replace o0 := owns_below o0 hb2
  have zw2 : w1.heap.size < w2.heap.size := Nat.lt_of_lt_of_le zw1 hb2.size
  replace ca := ca.keep hb2; replace fa := fa.keep hb2 la; replace la := ca.lt; replace hW := then_ hW hb2
  clear hb2 zw1 zal
  go_upto_region 5 with fail
  have o0' := o0.alloc (Obj.cells #[.int .i64 s.sz, .slice A5 N c5] 47)
  have cp := CA.new w2 #[.int .i64 s.sz, .slice A5 N c5] 47
  have hal : Below w2.heap.size w2 (w2.alloc (Obj.cells #[.int .i64 s.sz, .slice A5 N c5] 47)) := by (with_reducible exact Below.alloc (Below.refl _ _) (Nat.le_refl _) _)
  replace rP := rP.step hal
  have zX1 : w1.heap.size < (w2.alloc (Obj.cells #[.int .i64 s.sz, .slice A5 N c5] 47)).heap.size := Nat.lt_of_lt_of_le zw2 hal.size
  replace ca := ca.keep hal; replace fa := fa.keep hal la; replace la := ca.lt; replace hW := then_ hW hal
  obtain ⟨X, hX⟩ : ∃ X, X = w2.alloc (Obj.cells #[.int .i64 s.sz, .slice A5 N c5] 47) := ⟨_, rfl⟩
  rw [← hX] at o0' cp rP ca fa la hW zX1
  rw [← hX]
  clear hX hal o0
  have OX := Lib.hid o0'
  have RP := Lib.hid rP
  have lp := cp.lt
  clear o0' rP
  have KF := Lib.hid (fun A c w h => symsOfPicture_any s.sz A N c xs w hN64 h)
  have L8 : (symsP s.sz xs).length ≤ 8 := by rw [← keptUp_8]; exact keptUp_len _ _ _
  have IN := Lib.hid hin
  obtain ⟨l, hl⟩ : ∃ l, l = symsP s.sz xs := ⟨_, rfl⟩
  rw [← hl] at KF L8 IN h0
  have HLL := Lib.hid hl
  obtain ⟨n, hn⟩ : ∃ n, n = l.length := ⟨_, rfl⟩
  have HNN := Lib.hid hn
  rw [← hn] at KF L8 h0
  clear hl hn hin
  have p0 := cp 0 _ rfl; have p1 := cp 1 _ rfl
  go_wp2_with fail
  (with_reducible refine (KF.out _ _ _ RP.out).mono ?_)
  rintro r w3 ⟨B3, d3, rfl, o3, hb3⟩
  obtain ⟨ga, rfl, _, _⟩ := owns_slice_at o3 h0
  obtain ⟨g1, g2⟩ := o3.lt ga rfl
  have r1 := Rd.of_own symC_len HNN.out.symm o3
  have OY := Lib.hid (owns_below OX.out hb3)
  have hW3 := then_ hW hb3
  have RS := Lib.hid r1
  have zX3 := hb3.size
  have zWX := hW.size
  have zW3 := hW3.size
  clear r1 o3 hb3 KF p0 p1 cp OX RP ca fa la hW lp
  go_wp2_with fail
  go_loopw [5, 31] (fun v i wr => ∃ j : Nat, j ≤ n ∧ i = .int .i64 j ∧ (∃ G gc, v = .slice G j gc) ∧ wr.ownsRow w.heap.size 9 1 v j (flat bsC ((l.take j).map symS)) ∧ Off v ga ∧ Rd symC 2 wr w3.heap.size (some ⟨ga, 0, none⟩) n l ∧ w3.heap.size ≤ wr.heap.size ∧ Below w.heap.size w wr) (fun _ i _ => n - (intOf i).toNat)
  case atStart => exact ⟨0, Nat.zero_le _, rfl, ⟨_, _, rfl⟩, OY.out, by unfold Off Value.ownBlock; simp; omega, RS.out, Nat.le_refl _, hW3⟩
  case round =>
    clear OY RS hW3
    obtain ⟨j, hj, rfl, ⟨G, gc, rfl⟩, hown, hoff, hrd, hsz, hw⟩ := hrel
    have OW := Lib.hid hown
    have OFF := Lib.hid hoff
    have RD := Lib.hid hrd
    by_cases hlt : j < n
    · obtain ⟨b, off, t, f, e, _, hx, c0, c1'⟩ := hrd.sym hlt
      injection e with e
      injection e with e1 e2
      subst e1 e2
      have ht := IN.out _ (List.mem_of_getElem? hx)
      dsimp only at ht
      simp only [Nat.zero_add] at c0 c1'
      have hki : (j : Int) < (n : Int) := by omega
      have hk0 : (0 : Int) ≤ (j : Int) := by omega
      obtain ⟨sy, hsy⟩ : ∃ sy, sy = symS (t, f) := ⟨_, rfl⟩
      have kf := fun w => formatSym_yes t f w ht
      rw [← hsy] at kf
      have KA := Lib.hid kf
      have HX := Lib.hid hx
      have HSY := Lib.hid hsy
      clear kf hsy hx hrd hown hoff ht
      go_wp2_with fail
      obtain ⟨Y, hYe⟩ : ∃ Y, Y = wr.alloc (Obj.cells #[.int .i64 t, .bool f] 58) := ⟨_, rfl⟩
      have hY : Below wr.heap.size wr Y := by rw [hYe]; (repeat (first | with_reducible assumption | exact Below.refl _ _ | (refine Below.setCell ?_ (by first | exact Nat.le_refl _ | (simp; done) | omega | (simp; omega)) _) | (refine below_drewN ?_ _) | (refine Below.drew ?_) | (refine Below.alloc ?_ (by first | exact Nat.le_refl _ | (simp; done) | omega | (simp; omega)) _) | (refine then_ ?_ (by with_reducible assumption)) | assumption | (refine then_ ?_ (by assumption))))
      have zY : wr.heap.size < Y.heap.size := by rw [hYe]; simp
      rw [← hYe]
      clear hYe
      (with_reducible refine (KA.out _).mono ?_)
      rintro e w4 ⟨rfl, hb4⟩
      have hB2 := then_ hY hb4
      have z2 := hB2.size
      have OW2 := Lib.hid (owns_below OW.out hB2)
      have hw2 := then_ hw hB2
      clear hb4 hY c0 c1'
      go_wp2_with (at_builtin; refine wpList_append_own_at _ rfl _ _ 68 rfl w.heap.size 9 i0 (.string default) 1 16 Tryz.underlying68 hi hz0 hz1 hz2 rfl (by decide) _ _ _ rfl (OW2.out.alloc _) ⟨w4.heap.size, 0, none⟩ 1 1 [.string ⟨sy.toArray⟩] rfl rfl ?c13 ?c23 ?c33 ?c43 ?c53 ?_; (case c13 => exact World.news_of_block (cs := #[.string ⟨sy.toArray⟩]) (t := 9) (fr := (0, 0)) (heap_alloc_new w4 _)); (case c23 => simp [Value.oneCell']); (case c33 => unfold maxLen; omega); (case c43 => omega); (case c53 => (have := Below.size hw2; simp only [World.size_alloc]; omega)); intro v3 w3 hown3 hg3 hne3 hat3; simp only [World.size_alloc] at hat3; have GB3 := Lib.hid hg3; have OW3 := Lib.hid hown3; have BW3 := below_append hw2 OW2.out hg3; have NB3 := Lib.hid hat3; clear hown3 hg3 hne3 hat3)
      go_roundw
      case rel =>
        obtain ⟨A3, c3, rfl⟩ := owns_slice OW3.out
        have hA := (show Below w4.heap.size w4 (w4.alloc (Obj.cells #[.string ⟨sy.toArray⟩] 9)) by (repeat (first | with_reducible assumption | exact Below.refl _ _ | (refine Below.setCell ?_ (by first | exact Nat.le_refl _ | (simp; done) | omega | (simp; omega)) _) | (refine below_drewN ?_ _) | (refine Below.drew ?_) | (refine Below.alloc ?_ (by first | exact Nat.le_refl _ | (simp; done) | omega | (simp; omega)) _) | (refine then_ ?_ (by with_reducible assumption)) | assumption | (refine then_ ?_ (by assumption)))))
        have et : l.take (j + 1) = l.take j ++ [(t, f)] := by rw [List.take_add_one, HX.out]; rfl
        refine ⟨j + 1, by omega, by go_num, ⟨_, _, rfl⟩, ?_, OFF.out.next (by omega) NB3.out, ?_, ?_, BW3⟩
        · rw [et, List.map_append, flat_append]
          have := OW3.out
          rw [HSY.out] at this
          exact this
        · exact Rd.grown (Rd.keep RD.out (fun p hp => (then_ hB2 hA).cell (p := p) (by omega))) GB3.out (by simp only [World.size_alloc]; omega) OFF.out
        · have := GB3.out.size
          simp only [World.size_alloc] at this
          omega
      case measure => simp [intOf]; omega
    · obtain rfl : j = n := by omega
      have hlt2 : l.take j = l := List.take_of_length_le (by rw [← HNN.out]; exact Nat.le_refl _)
      rw [hlt2] at hown
      have OW5 := Lib.hid hown
      clear hown hoff hrd OW OFF RD
      go_wp2
      go_ret
      rw [← HLL.out, ← HNN.out]
      exact ⟨⟨_, _, rfl, OW5.out⟩, hw⟩
set_option maxRecDepth 100000 in
set_option maxHeartbeats 16000000 in
theorem askBead_any (s : Shw) (S B L : Option Addr) (k d q N : Nat) (xs : List Col) (w : World) (hg : Good s) (hk : okS s = true) (hN : s.sz * s.sz = (N : Int)) (_ : N ≤ maxLen) (hxs : xs = takeUp s.mir s.sz s.st (glassUp s.sh s.bs s.sh.length) s.li N) (hp : pictB s.sz xs = true) (hr : RdS w s S B L) :
    Calls Tryz.prog 22 #[.agg #[.int .i64 s.sz, .float .f32 s.st, .float .f32 s.li.1, .float .f32 s.li.2.1, .float .f32 s.li.2.2, .slice S s.sh.length k, .int .i64 s.mir, .complex .f32 s.gr.1 s.gr.2, .float .f32 s.loss, .slice B s.bs.length d, .int .i64 s.tk, .slice L s.log.length q], .string ⟨#[98, 101, 97, 100, 115]⟩] w fun r w' => (∃ B d, r = .returned (.slice B s.bs.length d)) ∧ Below w.heap.size w w' := by
  obtain ⟨p1, p2, p3, p4⟩ := okS_parts.1 hk
  have hl := hg.len
  obtain ⟨i0, hi, hz0, hz1, hz2⟩ := info_parts infoStr
  have KI := Lib.hid (fun w (h : RdS w s S B L) => isShow_any s S B L s.sh.length k s.bs.length d s.log.length q w hg (by omega) (by omega) (by omega) h.1 h.2.1 h.2.2)
  rw [hk] at KI
  have K1 := Lib.hid (fun w h => seenIn_any s S B L k d q N w hg hk hN h)
  rw [← hxs] at K1
  have LX := Lib.hid (show xs.length = N by rw [hxs]; exact takeUp_len _ _ _ _ _ _)
  have HR := Lib.hid hr
  have HG := Lib.hid hg
  have HP := Lib.hid hp
  have P1 := Lib.hid p1
  clear hr hg hk p1 p2 p3 p4 hl hN hxs hp
  go_enter Tryz.func22, Tryz.ntmps22
  go_upto_region 1 with fail
  have hW := Below.refl w.heap.size w
  have ca := CA.new w #[.int .i64 s.sz, .float .f32 s.st, .float .f32 s.li.1, .float .f32 s.li.2.1, .float .f32 s.li.2.2, .slice S s.sh.length k, .int .i64 s.mir, .complex .f32 s.gr.1 s.gr.2, .float .f32 s.loss, .slice B s.bs.length d, .int .i64 s.tk, .slice L s.log.length q] 34; have fa := FA.new w #[.int .i64 s.sz, .float .f32 s.st, .float .f32 s.li.1, .float .f32 s.li.2.1, .float .f32 s.li.2.2, .slice S s.sh.length k, .int .i64 s.mir, .complex .f32 s.gr.1 s.gr.2, .float .f32 s.loss, .slice B s.bs.length d, .int .i64 s.tk, .slice L s.log.length q] 34; replace hW := hW.alloc (hW.size) (Obj.cells #[.int .i64 s.sz, .float .f32 s.st, .float .f32 s.li.1, .float .f32 s.li.2.1, .float .f32 s.li.2.2, .slice S s.sh.length k, .int .i64 s.mir, .complex .f32 s.gr.1 s.gr.2, .float .f32 s.loss, .slice B s.bs.length d, .int .i64 s.tk, .slice L s.log.length q] 34); obtain ⟨V1, hV1e⟩ : ∃ V1, V1 = w.alloc (Obj.cells #[.int .i64 s.sz, .float .f32 s.st, .float .f32 s.li.1, .float .f32 s.li.2.1, .float .f32 s.li.2.2, .slice S s.sh.length k, .int .i64 s.mir, .complex .f32 s.gr.1 s.gr.2, .float .f32 s.loss, .slice B s.bs.length d, .int .i64 s.tk, .slice L s.log.length q] 34) := ⟨_, rfl⟩; have zV1 : V1.heap.size = w.heap.size + 1 := (by rw [hV1e]; simp); rw [← hV1e] at ca fa hW; rw [← hV1e]; clear hV1e; have la := ca.lt
  clear zV1
  have a0 := ca 0 _ rfl; have a1 := ca 1 _ rfl; have a2 := ca 2 _ rfl; have a3 := ca 3 _ rfl; have a4 := ca 4 _ rfl; have a5 := ca 5 _ rfl; have a6 := ca 6 _ rfl; have a7 := ca 7 _ rfl; have a8 := ca 8 _ rfl; have a9 := ca 9 _ rfl; have a10 := ca 10 _ rfl; have a11 := ca 11 _ rfl
  go_wp2_with fail
  (with_reducible refine (KI.out _ (HR.out.step hW)).mono ?_)
  rintro r w1 ⟨rfl, hb1⟩
  clear a0 a1 a2 a3 a4 a5 a6 a7 a8 a9 a10 a11 KI
  replace ca := ca.keep hb1; replace fa := fa.keep hb1 la; replace la := ca.lt; replace hW := then_ hW hb1
  clear hb1
  go_upto_region 4 with fail
  have o0 : (w1.alloc (Obj.cells #[] 9)).ownsRow w.heap.size 9 1 (.slice (some ⟨w1.heap.size, 0, none⟩) 0 0) 0 [] := World.ownsRow_lit (base := w.heap.size) (size := 1) (e := 9) w1 #[] 0 hW.size (by simp [maxLen]) rfl
  have hal : Below w1.heap.size w1 (w1.alloc (Obj.cells #[] 9)) := by (with_reducible exact Below.alloc (Below.refl _ _) (Nat.le_refl _) _)
  replace ca := ca.keep hal; replace fa := fa.keep hal la; replace la := ca.lt; replace hW := then_ hW hal
  have zal : w1.heap.size < (w1.alloc (Obj.cells #[] 9)).heap.size := by simp
  obtain ⟨W, hWe⟩ : ∃ W, W = w1.alloc (Obj.cells #[] 9) := ⟨_, rfl⟩
  rw [← hWe] at o0 ca fa la hW zal
  rw [← hWe]
  clear hWe hal
  have zw1 : w1.heap.size < W.heap.size := zal
  have a0 := ca 0 _ rfl; have a1 := ca 1 _ rfl; have a2 := ca 2 _ rfl; have a3 := ca 3 _ rfl; have a4 := ca 4 _ rfl; have a5 := ca 5 _ rfl; have a6 := ca 6 _ rfl; have a7 := ca 7 _ rfl; have a8 := ca 8 _ rfl; have a9 := ca 9 _ rfl; have a10 := ca 10 _ rfl; have a11 := ca 11 _ rfl
  go_wp2_with fail
  (with_reducible refine (K1.out _ (HR.out.step hW)).mono ?_)
  rintro r w2 ⟨⟨A5, c5, rfl, o5⟩, hb2⟩
  have rP := Rd.of_own colC_len LX.out o5
  clear a0 a1 a2 a3 a4 a5 a6 a7 a8 a9 a10 a11 K1 o5
  replace o0 := owns_below o0 hb2
  have zw2 : w1.heap.size < w2.heap.size := Nat.lt_of_lt_of_le zw1 hb2.size
  replace ca := ca.keep hb2; replace fa := fa.keep hb2 la; replace la := ca.lt; replace hW := then_ hW hb2
  clear hb2 zw1 zal
  go_upto_region 5 with fail
  have o0' := o0.alloc (Obj.cells #[.int .i64 s.sz, .slice A5 N c5] 47)
  have cp := CA.new w2 #[.int .i64 s.sz, .slice A5 N c5] 47
  have hal : Below w2.heap.size w2 (w2.alloc (Obj.cells #[.int .i64 s.sz, .slice A5 N c5] 47)) := by (with_reducible exact Below.alloc (Below.refl _ _) (Nat.le_refl _) _)
  replace rP := rP.step hal
  have zX1 : w1.heap.size < (w2.alloc (Obj.cells #[.int .i64 s.sz, .slice A5 N c5] 47)).heap.size := Nat.lt_of_lt_of_le zw2 hal.size
  replace ca := ca.keep hal; replace fa := fa.keep hal la; replace la := ca.lt; replace hW := then_ hW hal
  obtain ⟨X, hX⟩ : ∃ X, X = w2.alloc (Obj.cells #[.int .i64 s.sz, .slice A5 N c5] 47) := ⟨_, rfl⟩
  rw [← hX] at o0' cp rP ca fa la hW zX1
  rw [← hX]
  clear hX hal o0
  have OX := Lib.hid o0'
  have RP := Lib.hid rP
  have lp := cp.lt
  clear o0' rP
  have RB := Lib.hid (HR.out.rb)
  obtain ⟨n, hn⟩ : ∃ n, n = s.bs.length := ⟨_, rfl⟩
  have hn8 : n ≤ 1000 := by rw [hn]; have := P1.out; omega
  have HNN := Lib.hid hn
  have CW := Lib.hid HG.out.cw
  have WED := Lib.hid HG.out.wed
  rw [← hn] at RB ca
  clear hn
  have a0 := ca 0 _ rfl; have a1 := ca 1 _ rfl; have a2 := ca 2 _ rfl; have a3 := ca 3 _ rfl; have a4 := ca 4 _ rfl; have a5 := ca 5 _ rfl; have a6 := ca 6 _ rfl; have a7 := ca 7 _ rfl; have a8 := ca 8 _ rfl; have a9 := ca 9 _ rfl; have a10 := ca 10 _ rfl; have a11 := ca 11 _ rfl
  clear cp RP
  go_wp2_with fail
  go_loopw [5, 53] (fun v i wr => ∃ (j : Nat) (ys : List (List UInt8)), j ≤ n ∧ i = .int .i64 j ∧ (∃ G gc, v = .slice G j gc) ∧ wr.ownsRow w.heap.size 9 1 v j (flat bsC ys) ∧ Below w.heap.size w wr) (fun _ i _ => n - (intOf i).toNat)
  case atStart => exact ⟨0, [], Nat.zero_le _, rfl, ⟨_, _, rfl⟩, OX.out, hW⟩
  case round =>
    obtain ⟨j, ys, hj, rfl, ⟨G, gc, rfl⟩, hown, hw⟩ := hrel
    have OW := Lib.hid hown
    by_cases hlt : j < n
    · obtain ⟨b, off, z, v, hBe, hbl, hx, x0, x1⟩ := (RB.out.step hw).bd hlt
      have hc := (CW.out _ (List.mem_of_getElem? hx)).1
      have hp := wedge_point (WED.out _ (List.mem_of_getElem? hx))
      dsimp only at hc hp
      have KS := Lib.hid (fun w => standing_any (z, v) w hc hp)
      have hki : (j : Int) < (n : Int) := by omega
      have hk0 : (0 : Int) ≤ (j : Int) := by omega
      subst hBe
      clear hx hc hp hown
      go_wp2_with fail
      have hY : Below wr.heap.size wr (wr.alloc (Obj.cells #[.complex .f32 z.1 z.2, .complex .f32 v.1 v.2] 54)) := by (with_reducible exact Below.alloc (Below.refl _ _) (Nat.le_refl _) _)
      (with_reducible refine (KS.out _).mono ?_)
      rintro e w4 ⟨sy, hsl, rfl, hb4⟩
      have hB2 := then_ hY hb4
      have OW2 := Lib.hid (owns_below OW.out hB2)
      have hw2 := then_ hw hB2
      clear hb4 hY x0 x1
      go_wp2_with (at_builtin; refine wpList_append_own_at _ rfl _ _ 68 rfl w.heap.size 9 i0 (.string default) 1 16 Tryz.underlying68 hi hz0 hz1 hz2 rfl (by decide) _ _ _ rfl (OW2.out.alloc _) ⟨w4.heap.size, 0, none⟩ 1 1 [.string ⟨sy.toArray⟩] rfl rfl ?c13 ?c23 ?c33 ?c43 ?c53 ?_; (case c13 => exact World.news_of_block (cs := #[.string ⟨sy.toArray⟩]) (t := 9) (fr := (0, 0)) (heap_alloc_new w4 _)); (case c23 => simp [Value.oneCell']); (case c33 => unfold maxLen; omega); (case c43 => omega); (case c53 => (have := Below.size hw2; simp only [World.size_alloc]; omega)); intro v3 w3 hown3 hg3 hne3 hat3; simp only [World.size_alloc] at hat3; have GB3 := Lib.hid hg3; have OW3 := Lib.hid hown3; have BW3 := below_append hw2 OW2.out hg3; have NB3 := Lib.hid hat3; clear hown3 hg3 hne3 hat3)
      go_roundw
      case rel =>
        obtain ⟨A3, c3, rfl⟩ := owns_slice OW3.out
        refine ⟨j + 1, ys ++ [sy], by omega, by go_num, ⟨_, _, rfl⟩, ?_, BW3⟩
        rw [flat_append]
        exact OW3.out
      case measure => simp [intOf]; omega
    · obtain rfl : j = n := by omega
      clear hown OW
      go_wp2
      go_ret
      rw [← HNN.out]
      exact ⟨⟨_, _, rfl⟩, hw⟩
end Go.Proofs.YthlphmojldbpkaaGreat
/- Has -/
/- laws.has, laws.big; ActPicture on a picture of a known size. -/
namespace Go.Proofs.YthlphmojldbpkaaGreat
open Go.RowKit
set_option maxRecDepth 100000 in
set_option maxHeartbeats 4000000 in
theorem has_any (t : Int) (f : Bool) (G : Option Addr) (m cc : Nat) (l : List (Int × Bool)) (w : World) (hm : m ≤ 1048576) (hl : Rd symC 2 w w.heap.size G m l) :
    Calls Tryz.prog 21 #[.slice G m cc, .agg #[.int .i64 t, .bool f]] w fun e w' => e = .returned (.bool (inS l (t, f))) ∧ Below w.heap.size w w' := by
  go_enter Tryz.func21, Tryz.ntmps21
  go_wp2_with fail
  obtain ⟨W, hWe⟩ : ∃ W, W = w.alloc (Obj.cells #[.int .i64 t, .bool f] 58) := ⟨_, rfl⟩
  have hW : Below w.heap.size w W := by rw [hWe]; (repeat (first | with_reducible assumption | exact Below.refl _ _ | (refine Below.setCell ?_ (by first | exact Nat.le_refl _ | (simp; done) | omega | (simp; omega)) _) | (refine below_drewN ?_ _) | (refine Below.drew ?_) | (refine Below.alloc ?_ (by first | exact Nat.le_refl _ | (simp; done) | omega | (simp; omega)) _) | (refine then_ ?_ (by with_reducible assumption)) | assumption | (refine then_ ?_ (by assumption))))
  have zW : w.heap.size < W.heap.size := by rw [hWe]; simp
  have q0 : W.cell? ⟨w.heap.size, 0, none⟩ = some (.int .i64 t) := by rw [hWe]; simp [go_sem]
  have q1 : W.cell? ⟨w.heap.size, 1, none⟩ = some (.bool f) := by rw [hWe]; simp [go_sem]
  rw [← hWe]
  clear hWe
  go_loopw [5] (fun i wr => ∃ k : Nat, k ≤ m ∧ i = .int .i64 k ∧ (∀ (i : Nat) y, i < k → l[i]? = some y → ((t, f) == y) = false) ∧ Below W.heap.size W wr) (fun i _ => m - (intOf i).toNat)
  case atStart => exact ⟨0, Nat.zero_le _, rfl, fun i y h => by omega, Below.refl _ _⟩
  case round =>
    obtain ⟨k, hk, rfl, hall, hw⟩ := hrel
    have HALL := Lib.hid hall
    clear hall
    have hB := then_ hW hw
    by_cases hlt : k < m
    · obtain ⟨b, off, t', f', rfl, hbl, hx, c0, c1⟩ := (hl.below hB).sym hlt
      have hki : (k : Int) < (m : Int) := by omega
      have hk0 : (0 : Int) ≤ (k : Int) := by omega
      have HX := Lib.hid hx
      clear hx
      have d0 := keepC q0 hw
      have d1 := keepC q1 hw
      have kc := fun wx => run_eql_sym t' t f' f wx
      obtain ⟨q, hq⟩ : ∃ q, q = ((t', f') == (t, f)) := ⟨_, rfl⟩
      rw [← hq] at kc
      rw [BEq.comm] at hq
      have HQ := Lib.hid hq
      clear hq q0 q1
      cases q
      · go_wp2
        go_quiet (fail)
        go_wp2
        go_roundw
        case rel =>
          refine ⟨k + 1, by omega, by go_num, fun i y hi j1 => ?_, by (repeat (first | with_reducible assumption | exact Below.refl _ _ | (refine Below.setCell ?_ (by first | exact Nat.le_refl _ | (simp; done) | omega | (simp; omega)) _) | (refine below_drewN ?_ _) | (refine Below.drew ?_) | (refine Below.alloc ?_ (by first | exact Nat.le_refl _ | (simp; done) | omega | (simp; omega)) _) | (refine then_ ?_ (by with_reducible assumption)) | assumption | (refine then_ ?_ (by assumption))))⟩
          by_cases e : i = k
          · subst e
            rw [HX.out] at j1
            injection j1 with j1
            subst j1
            exact HQ.out.symm
          · exact HALL.out i y (by omega) j1
        case measure => simp [intOf]; omega
      · have hs := Lib.hid (contains_yes HX.out HQ.out.symm)
        go_wp2
        go_quiet (fail)
        go_wp2
        go_ret
        exact ⟨by rw [hs.out]; rfl, by (repeat (first | with_reducible assumption | exact Below.refl _ _ | (refine Below.setCell ?_ (by first | exact Nat.le_refl _ | (simp; done) | omega | (simp; omega)) _) | (refine below_drewN ?_ _) | (refine Below.drew ?_) | (refine Below.alloc ?_ (by first | exact Nat.le_refl _ | (simp; done) | omega | (simp; omega)) _) | (refine then_ ?_ (by with_reducible assumption)) | assumption | (refine then_ ?_ (by assumption))))⟩
    · obtain rfl : k = m := by omega
      have hs := Lib.hid (contains_no (l := l) (g := (t, f)) (fun i y h1 => HALL.out i y (by have := (List.getElem?_eq_some_iff.1 h1).1; have := hl.1; omega) h1))
      go_wp2
      go_ret
      exact ⟨by rw [hs.out]; rfl, hB⟩
end Go.Proofs.YthlphmojldbpkaaGreat
/- MarkT -/
/- Marks on rows of strings of the call's own, and what is held; eqStringS. -/
namespace Go.Proofs.YthlphmojldbpkaaGreat
open Go.RowKit
attribute [local go_sem] run_store_float run_store_complex
theorem Rd.str {w : World} {B : Nat} {A : Option Addr} {n k : Nat} {xs : List (List UInt8)} (h : Rd bsC 1 w B A n xs) (hk : k < n) :
    ∃ b off x, A = some ⟨b, off, none⟩ ∧ b < B ∧ xs[k]? = some x ∧ w.cell? ⟨b, off + k, none⟩ = some (.string ⟨x.toArray⟩) := by
  obtain ⟨b, off, x, e, hb, hx, hc⟩ := h.at_ hk
  have := hc 0 _ rfl
  rw [Nat.mul_one, Nat.add_zero] at this
  exact ⟨b, off, x, e, hb, hx, this⟩
end Go.Proofs.YthlphmojldbpkaaGreat
/- Open -/
/- A law's argument: slices of structs of floats, opened. -/
namespace Go.Proofs.YthlphmojldbpkaaGreat
open Go.ChangeShapes Go.WideShapes Go.ChangeAt Go.RowKit Go.Joins Go.Deep
section
variable {H : Type} {enc : TypeId × Value → H} {P : Program} {w : World} {base : Nat} {spare : Nat → Bool} {held : Bool}
end
theorem list_of {α : Type} (n : Nat) (p : Nat → α → Prop) (h : ∀ i, i < n → ∃ x, p i x) : ∃ xs : List α, xs.length = n ∧ ∀ (k : Nat) x, xs[k]? = some x → p k x := by
  induction n with
  | zero => exact ⟨[], rfl, fun k x hx => by simp at hx⟩
  | succ n ih =>
    obtain ⟨xs, hl, hp⟩ := ih (fun i hi => h i (by omega))
    obtain ⟨x, hx⟩ := h n (by omega)
    refine ⟨xs ++ [x], by simp [hl], fun k y hy => ?_⟩
    by_cases hk : k < n
    · rw [List.getElem?_append_left (by omega)] at hy
      exact hp k y hy
    · have hkn : k = n := by
        have := (List.getElem?_eq_some_iff.1 hy).1
        simp [hl] at this
        omega
      subst hkn
      rw [List.getElem?_append_right (by omega), hl] at hy
      simp at hy
      subst hy
      exact hx
theorem rd_of_cells_q {α : Type} {enc : α → List Value} {sz : Nat} {w : World} {a : Addr} {n : Nat} {Q : α → Prop} (hsz : 0 < sz) (he : ∀ x, (enc x).length = sz)
    (h : ∀ i, i < n → ∃ x : α, Q x ∧ ∀ j u, (enc x)[j]? = some u → w.cell? (a.add (i * sz + j)) = some u) : ∃ xs, Rd enc sz w w.heap.size (some a) n xs ∧ ∀ x ∈ xs, Q x := by
  obtain ⟨xs, hl, hp⟩ := list_of n _ h
  refine ⟨xs, ⟨hl, fun hn => ?_⟩, fun x hx => ?_⟩
  · obtain ⟨x, _, hx⟩ := h 0 hn
    have h0 : ∃ u, (enc x)[0]? = some u := ⟨_, List.getElem?_eq_getElem (by rw [he]; exact hsz)⟩
    obtain ⟨u, hu⟩ := h0
    have hc := hx 0 u hu
    have ha : a.add (0 * sz + 0) = a := by simp [Addr.add]
    rw [ha] at hc
    have hs : a.spot = none := by
      unfold World.cell? at hc
      split at hc
      · cases hsp : a.spot with
        | none => rfl
        | some q => simp [hsp] at hc
      · cases hc
    obtain ⟨b, off, sp⟩ := a
    simp only at hs
    subst hs
    refine ⟨b, off, rfl, World.block_lt_of_cell? w _ hc, fun k x hx j u hu => ?_⟩
    have := (hp k x hx).2 j u hu
    unfold Addr.add at this
    split at this
    · rename_i h0
      rw [show off + k * sz + j = off from by omega]
      exact this
    · rw [show off + k * sz + j = off + (k * sz + j) from by omega]
      exact this
  · obtain ⟨k, hk⟩ := List.getElem?_of_mem hx
    exact (hp k x hk).1
section
variable {H : Type} {enc : TypeId × Value → H} {P : Program} {w : World} {base : Nat} {spare : Nat → Bool} {held : Bool}
/-- a slice of bytes -/
theorem open_bytes {r : Reach} {b0 : Nat} {t e : TypeId} {v : Value} {d : DataW H} {ps : List MemPlace} (ht : P.underlying t = some (.slice e)) (he : P.underlying e = some (.int .u8)) (hc : P.cellsOf e = 1)
    (hv : Value.okWide P w r b0 t v) (h : DataW.Trod enc P w base spare held t v d ps) :
    ∃ A n c bs, v = .slice A n c ∧ n ≤ maxLen ∧ Rd byteC 1 w w.heap.size A n bs ∧ ∀ x ∈ bs, 0 ≤ x ∧ x ≤ 255 := by
  obtain ⟨a0, len, cap, rfl⟩ := okWide_slice ht hv
  obtain ⟨fuel, hf⟩ := h
  rcases open_ints ht he hc hf with ⟨hcs, _⟩ | ⟨a, l, c, zs, hcs, _, hl, hm, hz, _, hcell, hwz⟩
  · simp [Value.cells] at hcs
    obtain ⟨rfl, rfl, rfl⟩ := hcs
    exact ⟨none, 0, 0, [], rfl, by simp [maxLen], Rd.nil_, fun x hx => by cases hx⟩
  · simp [Value.cells] at hcs
    obtain ⟨rfl, rfl, rfl⟩ := hcs
    have hx : ∃ xs, Rd byteC 1 w w.heap.size (some a) len xs ∧ ∀ x ∈ xs, 0 ≤ x ∧ x ≤ 255 := by
      refine rd_of_cells_q (by omega) (fun _ => rfl) (fun i hi => ?_)
      have hlt : i < zs.length := by rw [hz]; split <;> omega
      have e := hcell i hlt
      have hw := hwz (zs.getD i 0) (by rw [List.getD_eq_getElem?_getD, List.getElem?_eq_getElem hlt]; exact List.getElem_mem hlt)
      generalize zs.getD i 0 = z at *
      refine ⟨z, ?_, fun j u hu => ?_⟩
      · simp [Lit.wf, IntKind.min, IntKind.max, IntKind.signed, IntKind.bits] at hw; omega
      · have hj : j = 0 := by
          have := (List.getElem?_eq_some_iff.1 hu).1
          simp [byteC] at this
          exact this
        subst hj
        simp only [Nat.mul_one, Nat.add_zero]
        rw [e]
        exact hu
    obtain ⟨xs, hx, hq⟩ := hx
    exact ⟨some a, len, cap, xs, rfl, by omega, hx, hq⟩
end
section
variable {H : Type} {enc : TypeId × Value → H} {w : World} {base : Nat} {spare : Nat → Bool} {held : Bool}
end
end Go.Proofs.YthlphmojldbpkaaGreat
