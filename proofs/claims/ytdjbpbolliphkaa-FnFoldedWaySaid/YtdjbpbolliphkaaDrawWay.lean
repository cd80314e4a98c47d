
/- DrawWay. -/
import Derived.Test.YtdjbpbolliphkaaDrawTum
namespace Go.Proofs.Ytdjbpbolliphkaa
open Go.RowKit
attribute [local go_sem] run_store_float run_store_complex

set_option maxHeartbeats 2000000 in
theorem drawWay_any (A : Option Addr) (m c : Nat) (bs : List Int) (w : World) (hm : m ≤ 4096) (hr : Rd byteC 1 w w.heap.size A m bs) (hb : ∀ x ∈ bs, 0 ≤ x ∧ x ≤ 255) :
    Calls Try.prog 9 #[.slice A m c] w fun e w' => ∃ (K N : Nat) (z v : Pt), K < 4 ∧ N < 24 ∧ pointB z.1 z.2 = true ∧ pointB v.1 v.2 = true ∧ e = .returned (.tuple #[.int .i64 K, .complex .f32 z.1 z.2, .complex .f32 v.1 v.2, .int .i64 N]) ∧ Below w.heap.size w w' := by
  go_enter Try.func9, Try.ntmps9
  go_wp2_with fail
  refine (l1New_any A m c bs _ hm hr).mono ?_
  rintro e w1 ⟨g, rfl, hg, hc1, hb1⟩
  have hcb : CurB w1 g A m c bs := ⟨hc1, (hr.below hb1).more (by omega), hc1.lt, hb, by unfold maxLen; omega⟩
  clear hc1
  go_wp2_with fail
  refine (l1BelowC g A m c bs 4 _ (by omega) (by omega) hcb).mono ?_
  rintro e w2 ⟨K, hK, rfl, hc2, hg2⟩
  clear hcb
  go_wp2_with fail
  refine (l1PointC g A m c bs _ hc2).mono ?_
  rintro e w3 ⟨z, hz, rfl, hc3, hg3⟩
  have hg23 := grown_trans hg2 hg3
  have HZ := Lib.hid (speed_point hz)
  clear hc2 hg2 hg3 hz
  go_wp2_with fail
  refine (l5SpeedC g A m c bs _ hc3).mono ?_
  rintro e w4 ⟨v, hv, rfl, hc4, hg4⟩
  have hg24 := grown_trans hg23 hg4
  have HV := Lib.hid (speed_point hv)
  clear hc3 hg23 hg4 hv
  go_wp2_with fail
  refine (l1BelowC g A m c bs 24 _ (by omega) (by omega) hc4).mono ?_
  rintro e w5 ⟨N, hN, rfl, hc5, hg5⟩
  have B5 := below_of_grown hb1 (grown_trans hg24 hg5) hg
  clear hc4 hc5 hg24 hg5 hb1
  go_wp2
  exact bodyPost_ret (v := .tuple #[.int .i64 K, .complex .f32 z.1 z.2, .complex .f32 v.1 v.2, .int .i64 N]) (by simp [results, Try.results9, go_sem]) rfl ⟨K, N, z, v, by omega, by omega, HZ.out, HV.out, rfl, B5⟩
end Go.Proofs.Ytdjbpbolliphkaa
