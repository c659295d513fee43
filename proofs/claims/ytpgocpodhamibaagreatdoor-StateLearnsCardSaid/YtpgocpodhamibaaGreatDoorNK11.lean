/- awake. awake: the walk. StateNothing: the law's walk. -/
import Derived.Test.YtpgocpodhamibaaGreatDoorNK10
namespace Go.Proofs.YtpgocpodhamibaaGreatDoor
open Go.RowKit
theorem Seen.of0 {g : Nat} {s : St} {w : World} {P : Nat → Prop} (h : StAt w P g s) (h6 : w.cell? ⟨g, 6, none⟩ = some (.map none)) (hf : s.frozen = []) (h1 : s.self ≠ 0) (h2 : s.ring.length ≤ 1000000)
 (h3 : ∀ n, 0 ≤ versionT s.table n ∧ versionT s.table n ≤ 40000) (h4 : ∀ n k, (knownT s.table n k).1.fit) : Seen g s w := by
 refine ⟨h1, h2, h3, h4, busy_0 g s P w h hf ?_⟩
 obtain ⟨v, hB, hI⟩ := h
 have h := hB.cell 6
 rw [h6] at h
 exact ⟨v, hB, hI, (Option.some.inj h).symm⟩
theorem aw_vers0 (n : Str) : 0 ≤ versionT awS.table n ∧ versionT awS.table n ≤ 40000 := by
 show (0 : Int) ≤ 0 ∧ (0 : Int) ≤ 40000
 decide
theorem aw_fit0 (n k : Str) : (knownT awS.table n k).1.fit := by
 show zeroKnown.fit
 exact ⟨by show (0 : Nat) ≤ _; omega, show i64 0 from ⟨by omega, by omega⟩, ⟨show i64 0 from ⟨by omega, by omega⟩, show i64 0 from ⟨by omega, by omega⟩, show i64 0 from ⟨by omega, by omega⟩⟩⟩
theorem aw_tab : (commitS awS awR).1.table = [(⟨#[97]⟩, ⟨[⟨⟨#[97]⟩, 1, ⟨#[120]⟩, ⟨5, 0, 1⟩, 0⟩], [(⟨#[107]⟩, ⟨⟨#[107]⟩, 1, ⟨5, 0, 1⟩⟩)]⟩)] := by kernel_rfl
theorem aw_take : takeT awS.table allHashes = [] := by kernel_rfl
theorem aw_fresh : freshT awS.table = [] := by kernel_rfl
theorem aw_fair : StFair awS := ⟨by decide, fun p hp => (by cases hp), by rw [aw_take]; exact ⟨by decide, fun s hs => (by cases hs)⟩, by decide, fun n => (by rw [aw_fresh]; show (0 : Int) ≤ 30000; decide)⟩
theorem i64_small (n : Int) (h : -1000 ≤ n ∧ n ≤ 1000) : i64 n := ⟨by omega, by omega⟩
theorem aw_vers1 (n : Str) : 0 ≤ versionT (commitS awS awR).1.table n ∧ versionT (commitS awS awR).1.table n ≤ 40000 := by
 rw [aw_tab]
 unfold versionT
 simp only [getA]
 split
 ·rename_i h
  split at h
  ·injection h with h; rw [← h]; decide
  ·cases h
 ·decide
theorem aw_fit1 (n k : Str) : (knownT (commitS awS awR).1.table n k).1.fit := by
 have h0 := aw_fit0 n k
 rw [show awS.table = [] from rfl] at h0
 rw [aw_tab]
 unfold knownT at h0 ⊢
 simp only [getA] at h0 ⊢
 by_cases hn : n = (⟨#[97]⟩ : Str)
 ·by_cases hk : k = (⟨#[107]⟩ : Str)
  ·subst hn; subst hk
   exact ⟨by show (1 : Nat) ≤ _; omega, i64_small 1 (by omega), ⟨i64_small 5 (by omega), i64_small 0 (by omega), i64_small 1 (by omega)⟩⟩
  ·simpa [hn, hk, getA] using h0
 ·simpa [hn, getA] using h0
theorem aw_rfair : awR.Fair := by
 refine ⟨by decide, fun p hp => ?_, by decide, by decide, by decide, fun s hs => by cases hs⟩
 rcases List.mem_singleton.1 hp with rfl
 decide
theorem aw_self : (commitS awS awR).1.self = 1 ∧ (commitS awS awR).1.frozen = [] ∧ (commitS awS awR).1.ring.length ≤ 1000000 := ⟨by kernel_rfl, by kernel_rfl, of_decide_eq_true (by kernel_rfl)⟩
open Go.RowKit
set_option maxRecDepth 20000 in
set_option maxHeartbeats 3200000 in
theorem awake_any (w : World) (hT : Tabs w) (h2 : 2 ≤ w.heap.size) : Calls Tryz.prog 15 #[] w fun e w' => e = .returned (.bool true) ∧ Below w.heap.size w w' := by
 have C1 := newState_any 1 1 w (i64_small 1 (by omega)) (i64_small 1 (by omega))
 unfold GotState at C1
 rw [show newS 1 1 = some awS from by kernel_rfl] at C1
 go_enter Tryz.func15, Tryz.ntmps15
 go_wp2_with fail
 refine C1.mono ?_
 clear C1
 rintro e w1 ⟨⟨g, rfl, hg, hst, h6⟩, hb1⟩
 have H1 := jh (ja hst (ja h6 hb1))
 clear hst h6 hb1
 unfold ptrV
 have hz1 : w.heap.size ≤ w1.heap.size := H1.out.2.2.size
 have hb2 := (((jb w1.heap.size w1).al (.cells #[.string ⟨#[120]⟩] 9)).al (.cells #[.string ⟨#[97]⟩, .int .i64 (-1), .slice (some ⟨w1.heap.size, 0, none⟩) 1 1] 29)).al (.cells #[.string ⟨#[107]⟩, .slice (some ⟨w1.heap.size + 1, 0, none⟩) 1 1] 32)
 have r1 : StrR.Row (w1.alloc (.cells #[.string ⟨#[120]⟩] 9)) _ (some ⟨w1.heap.size, 0, none⟩) [⟨#[120]⟩] := Rep.Row.new1 (P := fun _ => False) (cs := [.string ⟨#[120]⟩]) ⟨rfl, show sfit ⟨#[120]⟩ from (by show (1 : Nat) ≤ _; omega)⟩
 have hz2 : (w1.alloc (.cells #[.string ⟨#[120]⟩] 9)).heap.size = w1.heap.size + 1 := by simp
 have r2 := Rep.Row.new1 (R := PutR) (w := w1.alloc (.cells #[.string ⟨#[120]⟩] 9)) (t := 29) (a := ⟨⟨#[97]⟩, -1, [⟨#[120]⟩]⟩) (put_rep.2 ⟨some ⟨w1.heap.size, 0, none⟩, 1, rfl, (by show (1 : Nat) ≤ _; omega), i64_small (-1) (by omega), by decide, by decide, r1⟩)
 rw [hz2] at r2
 have r3 := (r2.ext ((jb _ _).al (.cells #[.string ⟨#[107]⟩, .slice (some ⟨w1.heap.size + 1, 0, none⟩) 1 1] 32))).mono (Q := fun k => w1.heap.size ≤ k) (fun k h _ => by rcases h with (h | h) | h <;> first | exact h.elim | omega)
 have B2 := Blk.new1 (w1.alloc (.cells #[.string ⟨#[120]⟩] 9)) (.cells #[.string ⟨#[97]⟩, .int .i64 (-1), .slice (some ⟨w1.heap.size, 0, none⟩) 1 1] 29) 32 [.string ⟨#[107]⟩, .slice (some ⟨w1.heap.size + 1, 0, none⟩) 1 1]
 rw [hz2] at B2
 have HR := jh (ja r3 (ja B2 hb2))
 clear r1 r2 r3 B2 hb2 hz2
 go_upto_region 5 with fail
 generalize ((w1.alloc (.cells #[.string ⟨#[120]⟩] 9)).alloc (.cells #[.string ⟨#[97]⟩, .int .i64 (-1), .slice (some ⟨w1.heap.size, 0, none⟩) 1 1] 29)).alloc (.cells #[.string ⟨#[107]⟩, .slice (some ⟨w1.heap.size + 1, 0, none⟩) 1 1] 32) = w2 at *
 have hgl := H1.out.1.lt
 have hw2 := H1.out.2.2.tr HR.out.2.2
 have x0 : w2.cell? ⟨w1.heap.size + 1 + 1, 0, none⟩ = some (.string ⟨#[107]⟩) := HR.out.2.1.cell 0
 have x1 : w2.cell? ⟨w1.heap.size + 1 + 1, 1, none⟩ = some (.slice (some ⟨w1.heap.size + 1, 0, none⟩) 1 1) := HR.out.2.1.cell 1
 have hst2 : StAt w2 (fun k => (w.heap.size ≤ k ∧ k ≠ g) ∧ k < w1.heap.size) g awS := by
  obtain ⟨v, a, b⟩ := H1.out.1
  exact ⟨v, a.ext HR.out.2.2, b.low.same (Same.of_below HR.out.2.2)⟩
 have h62 : w2.cell? ⟨g, 6, none⟩ = some (.map none) := by
  obtain ⟨v, a, b⟩ := H1.out.1
  exact (((a.ext HR.out.2.2).cell 6).trans (a.cell 6).symm).trans H1.out.2.1
 have hrec : RecAt w2 (fun k => w1.heap.size ≤ k) awR none 0 (some ⟨w1.heap.size + 1, 0, none⟩) 1 none 0 :=
  ⟨i64_small 3 (by omega), i64_small 0 (by omega), i64_small 0 (by omega), ⟨i64_small 5 (by omega), i64_small 0 (by omega), i64_small 1 (by omega)⟩, ⟨i64_small 0 (by omega), i64_small 0 (by omega), i64_small 0 (by omega)⟩, ⟨Nat.le_refl _, by decide, Rep.Row.nil_⟩,
   (by show (1 : Nat) ≤ _; omega), ⟨Nat.le_refl _, by decide, HR.out.1⟩, ⟨i64_small 0 (by omega), i64_small 0 (by omega), i64_small 0 (by omega), i64_small 0 (by omega)⟩, ⟨Nat.le_refl _, by decide, Rep.Row.nil_⟩⟩
 have C2 := apply_3 g awS awR none (some ⟨w1.heap.size + 1, 0, none⟩) none 0 1 0 _ _ w2 hst2 (fun h => h.1.2 rfl) aw_fair (Seen.of0 hst2 h62 rfl (by decide) (of_decide_eq_true (by kernel_rfl)) aw_vers0 aw_fit0) hrec (fun h => by omega) aw_rfair (hT.below hw2) (by omega) rfl
 have HE := jh (show apply3 awS awR = ((commitS awS awR).1, 0) from by unfold apply3; rw [aw_check, if_neg (by simp)]; exact Prod.ext rfl aw_com)
 have H2 := jh (ja hw2 (ja h62 hT))
 clear hst2 h62 hrec hT hw2
 rw [HE.out] at C2
 unfold ptrV CodeOut at C2
 go_wp2_with fail
 refine C2.mono ?_
 clear C2 x0 x1
 rintro e w3 ⟨rfl, hst3, hO3, h63⟩
 have B3 := HR.out.2.1.only hO3 (fun h => by have : w1.heap.size + 1 + 1 = g := h; omega)
 have x0 : w3.cell? ⟨w1.heap.size + 1 + 1, 0, none⟩ = some (.string ⟨#[107]⟩) := B3.cell 0
 have x1 : w3.cell? ⟨w1.heap.size + 1 + 1, 1, none⟩ = some (.slice (some ⟨w1.heap.size + 1, 0, none⟩) 1 1) := B3.cell 1
 have hw3 : Only (· = g) w w3 := (Only.of_below H2.out.1).tr hO3
 have hT3 := H2.out.2.2.only hw3 (by omega) (by omega)
 have hr3 := HR.out.1.same (Same.of_only hO3 fun k hk e => by have : k = g := e; omega) hO3.size
 have hz3 := hO3.size
 have hz2 : w1.heap.size ≤ w2.heap.size := by have := HR.out.2.1.lt; omega
 have hS3 := Seen.of0 hst3 (h63.trans H2.out.2.1) aw_self.2.1 (by rw [aw_self.1]; decide) aw_self.2.2 aw_vers1 aw_fit1
 have C3 := may_any' g (commitS awS awR).1 awB (some ⟨w1.heap.size + 1, 0, none⟩) 1 _ _ w3 hst3 hS3 hr3 (by decide) (by show (1 : Nat) ≤ _; omega) (fun p hp => by rcases List.mem_singleton.1 hp with rfl; decide) hT3 (by omega)
 rw [aw_may2] at C3
 unfold Got3 ptrV at C3
 have H3 := jh (ja hst3 (ja hw3 hS3.self))
 clear B3 hst3 hO3 h63 hw3 hT3 hr3 hS3
 go_wp2_with fail
 refine C3.mono ?_
 clear C3 x0 x1
 rintro e w4 ⟨⟨fv, rfl, hfv⟩, hb4⟩
 obtain ⟨A4, c4, rfl, hc4, hc4'⟩ := hfv.form
 have hfr := hfv.row' (P := fun k => w3.heap.size ≤ k) int_plain (fun k h => (hfv.lt k h).1)
 obtain ⟨fb, fo, fcs, rfl, hfb, hfbl, ⟨rfl, _⟩, hfc⟩ := hfr.at_ (k := 0) (a := 1) rfl
 have y0 : w4.cell? ⟨fb, fo, none⟩ = some (.int .i64 1) := by simpa using hfc 0 _ rfl
 have hb5 := hb4.al (.cells #[.string ⟨#[107]⟩, .int .i64 1, .int .i64 5, .int .i64 0, .int .i64 1] 70)
 obtain ⟨v5, hB5, hI5⟩ := H3.out.1
 have C5 := sversion_any g (commitS awS awR).1 ⟨#[97]⟩ _ (w4.alloc (.cells #[.string ⟨#[107]⟩, .int .i64 1, .int .i64 5, .int .i64 0, .int .i64 1] 70)) ⟨v5, hB5.ext hb5, hI5.same (Same.of_below hb5)⟩ H3.out.2.2
 rw [aw_ver] at C5
 unfold ptrV at C5
 have H5 := jh hb5
 clear hfr hfc hfv hb4 hb5 hB5 hI5 hc4 hc4' hfb
 go_wp2_with fail
 refine C5.mono ?_
 clear C5
 rintro e w' ⟨rfl, rfl⟩
 go_wp2_with fail
 go_ret
 exact ⟨rfl, (H3.out.2.1.low (fun k hk => by have : k = g := hk; omega) (Nat.le_refl _)).tr H5.out⟩
end Go.Proofs.YtpgocpodhamibaaGreatDoor
