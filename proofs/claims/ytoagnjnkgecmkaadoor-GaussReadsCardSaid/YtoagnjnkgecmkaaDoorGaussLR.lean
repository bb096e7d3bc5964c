/- Walks of the gauss seat, part LR: the law of readings. -/
import Derived.Test.YtoagnjnkgecmkaaDoorGaussZ
import Derived.Test.YtoagnjnkgecmkaaDoorGaussRD
namespace Go.Proofs.YtoagnjnkgecmkaaDoor
open Go.RowKit HF
attribute [local go_sem] B_mk B_size B_toList B_extract B_append B_get

set_option maxHeartbeats 4000000 in
set_option maxRecDepth 100000 in
theorem lastany_one_high (c : UInt8) (w : World) (ha : 128 ≤ bt [c] 0) :
    Calls Tryd.prog 35 #[.string (B [c]), .string (B [43, 45])] w fun e w' => e = .returned (.int .i64 (lastSign [c])) ∧ Below w.heap.size w w' := by
  have e : lastSign [c] = -1 := by show lsu [c] 1 = -1; rw [lsu, if_neg (by omega)]; rfl
  have hlo := bt_lo [c] 0
  have hhi := bt_hi [c] 0
  rw [e]
  clear e
  go_enter Tryd.func35, Tryd.ntmps35
  go_wp2_with fail
  refine (ixrune_high 43 45 (by decide) (by decide) 65533 (by decide) (by decide) _).mono ?_
  rintro e w' ⟨rfl, hb⟩
  go_wp2
  go_ret
  exact ⟨rfl, hb⟩
theorem la_tabs (l : List UInt8) (hs : l.length < 1000000) (w : World) (hT : Tabs w) : LAw l w := by
  intro w1 hb
  by_cases h8 : 8 < l.length
  · exact lastany_long l w1 h8 hs
  · by_cases h1 : l.length = 1
    · match l, h1 with
      | [c], _ =>
        by_cases ha : bt [c] 0 < 128
        · exact lastany_one c w1 ha
        · exact lastany_one_high c w1 (by omega)
    · exact lastany_tabs l w1 (hT.below hb) (by omega) (beq_eq_false_iff_ne.2 (by omega))

attribute [local go_sem high] eql_cv
set_option maxHeartbeats 4000000 in
set_option maxRecDepth 100000 in
theorem reads_core (s : List UInt8) (x y er : Int) (w : World) (h100 : ¬ ((100 : Int) < (s.length : Int))) (h3 : er = 0 → gtxt x y = s)
    (K1 : ∀ w1, Below w.heap.size w w1 → Calls Tryd.prog 26 #[.string (B s)] w1 fun e w' => e = .returned (.tuple #[cv x y, .int .i64 er]) ∧ Below w1.heap.size w1 w')
    (K2 : ∀ w1, Calls Tryd.prog 28 #[.string (B s)] w1 fun e w' => e = .returned (.tuple #[cv x y, .int .i64 er]) ∧ Below w1.heap.size w1 w') :
    Calls Tryd.prog 9 #[.string (B s)] w fun e w' => e = .returned (.bool true) ∧ Below w.heap.size w w' := by
  have K3 := gtext_any x y
  have KK := Lib.hid K1
  clear K1
  by_cases he : er = 0
  · subst he
    rw [h3 rfl] at K3
    clear h3
    go_enter Tryd.func9, Tryd.ntmps9
    go_wp2_with fail
    refine (KK.out _ (Below.refl _ _)).mono ?_
    rintro e w1 ⟨rfl, hb1⟩
    have hz1 : w.heap.size ≤ w1.heap.size := hb1.size
    have q1 : Below w.heap.size w (w1.alloc (.cells #[.int .i64 x, .int .i64 y] 23)) := hb1.alloc (by omega) _
    go_wp2_with fail
    refine (K2 _).mono ?_
    rintro e w2 ⟨rfl, hb2⟩
    obtain ⟨hc2, hf2⟩ := bcell hb2
    have hz2 : w1.heap.size < w2.heap.size := by have := hb2.size; simp at this; omega
    have q2 : Below w.heap.size w w2 := Below.trans q1 (hb2.mono (by simp; omega))
    have q3 : Below w.heap.size w (w2.alloc (.cells #[.int .i64 x, .int .i64 y] 23)) := q2.alloc (by omega) _
    have c0 : w2.cell? ⟨w1.heap.size, 0, none⟩ = some (.int .i64 x) := by rw [hc2 _ _ (by simp)]; simp
    have c1 : w2.cell? ⟨w1.heap.size, 1, none⟩ = some (.int .i64 y) := by rw [hc2 _ _ (by simp)]; simp
    clear hb1 hb2 hc2 hf2 q1 q2
    go_wp2_with fail
    refine (K3 _).mono ?_
    rintro e w3 ⟨rfl, hb3⟩
    have q4 : Below w.heap.size w w3 := Below.trans q3 (hb3.mono (by simp; omega))
    go_wp2_with fail
    refine (awake_any _).mono ?_
    rintro e w4 ⟨rfl, hb4⟩
    have q5 : Below w.heap.size w w4 := Below.trans q4 (hb4.mono q4.size)
    go_wp2
    go_ret
    exact ⟨rfl, q5⟩
  · have he' : (er != 0) = true := by simp [he]
    clear h3
    go_enter Tryd.func9, Tryd.ntmps9
    go_wp2_with fail
    refine (KK.out _ (Below.refl _ _)).mono ?_
    rintro e w1 ⟨rfl, hb1⟩
    have hz1 : w.heap.size ≤ w1.heap.size := hb1.size
    have q1 : Below w.heap.size w (w1.alloc (.cells #[.int .i64 x, .int .i64 y] 23)) := hb1.alloc (by omega) _
    go_wp2_with fail
    refine (K2 _).mono ?_
    rintro e w2 ⟨rfl, hb2⟩
    obtain ⟨hc2, hf2⟩ := bcell hb2
    have hz2 : w1.heap.size < w2.heap.size := by have := hb2.size; simp at this; omega
    have q2 : Below w.heap.size w w2 := Below.trans q1 (hb2.mono (by simp; omega))
    have q3 : Below w.heap.size w (w2.alloc (.cells #[.int .i64 x, .int .i64 y] 23)) := q2.alloc (by omega) _
    have c0 : w2.cell? ⟨w1.heap.size, 0, none⟩ = some (.int .i64 x) := by rw [hc2 _ _ (by simp)]; simp
    have c1 : w2.cell? ⟨w1.heap.size, 1, none⟩ = some (.int .i64 y) := by rw [hc2 _ _ (by simp)]; simp
    clear hb1 hb2 hc2 hf2 q1 q2
    go_wp2_with fail
    refine (awake_any _).mono ?_
    rintro e w4 ⟨rfl, hb4⟩
    have q5 : Below w.heap.size w w4 := Below.trans q3 (hb4.mono q3.size)
    go_wp2
    go_ret
    exact ⟨rfl, q5⟩
set_option maxHeartbeats 4000000 in
theorem law_reads (s : List UInt8) (w : World) (hT : Tabs w) : Calls Tryd.prog 9 #[.string (B s)] w fun e w' => e = .returned (.bool true) ∧ Below w.heap.size w w' := by
  by_cases h100 : (100 : Int) < (s.length : Int)
  · go_enter Tryd.func9, Tryd.ntmps9
    go_wp2_with fail
    refine (awake_any _).mono ?_
    rintro e w1 ⟨rfl, hb1⟩
    go_wp2
    go_ret
    exact ⟨rfl, hb1⟩
  · have K1 := fun w1 (hb : Below w.heap.size w w1) => gparse_any s (by omega) w1 (la_tabs s.dropLast (by simp; omega) w1 (hT.below hb))
    have K2 := rread_any s (by omega)
    obtain ⟨⟨x, y, er⟩, hg⟩ : ∃ r, gp s = r := ⟨_, rfl⟩
    rw [hg] at K1 K2
    exact reads_core s x y er w h100 (fun he => gtxt_gp s x y (by rw [hg, he])) K1 K2
end Go.Proofs.YtoagnjnkgecmkaaDoor
