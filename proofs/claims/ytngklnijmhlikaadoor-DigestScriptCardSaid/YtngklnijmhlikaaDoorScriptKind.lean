/- DigestScript: one call of the script. -/
import Derived.Test.YtngklnijmhlikaaDoorScript
namespace Go.Proofs.YtngklnijmhlikaaDoor
open Go.RowKit

/-- A call by its kind. -/
noncomputable def kindCode : Code := subCode [1, 1, 1, 1, 1, 0, 1, 2, 2, 1, 0, 2, 1, 1, 1, 0, 1] ((Tryd.f5.body).getD .skip)

/-- Where the script stands behind a call. -/
def KindDone (w w' : World) (HB MB L : Nat) (y : Value) : Prop :=
  ∃ n o h h' s s' m m', n + o = 1 ∧ y = .int .i64 (n : Nat) ∧ m.length ≤ L ∧ m'.length ≤ L ∧ ScriptIn w w' HB MB n h h' s s' m m' m m'

set_option maxRecDepth 100000 in
set_option maxHeartbeats 4000000 in
theorem script_kind {z0 z1 z2 z6 z8 z9 z10 z11 z12 z13 z14 z15 z16 z17 z18 z19 z20 z21 z22 z23 z24 z25 z26 z27 z28 z29 z30 z31 z32 z33 z34 z35 z37 z38 z39 z40 z41 z42 z43 z44 z45 z46 z47 z48 z49 z50 z51 z52 z53 z54 z55 z56 z57 z58 z59 z60 z61 z62 z63 z64 z65 z66 z67 z68 z69 z70 z71 z72 z73 z74 z75 z76 z77 z78 z79 z80 z81 z82 z83 z84 z85 z86 z87 z88 z89 z90 z91 z92 z93 z94 z95 z96 z97 z98 z99 z100 z101 z102 z103 z104 z105 z106 z107 z108 z109 z110 z111 z112 z113 z114 z115 z116 z117 z118 z119 z120 z121 z122 z123 z124 z125 z126 z127 z128 z129 z130 z131 z132 z133 z134 z135 z136 z137 z138 z139 z140 z141 z142 : Value} (w wc : World) (HB MB AB n o h h' L : Nat) (s s' : Value) (m m' : List (BitVec 8)) (k : BitVec 8) (vp : Option Addr) (vc : Nat) (bs : List (BitVec 8))
    (hn : n + o = 1) (hI : ScriptIn w wc HB MB n h h' s s' m m' m m') (hAB : Whole wc AB 45 [vu8 k, .slice vp bs.length vc]) (hABt : ¬ Turned HB MB h h' AB) (hv : SliceIs w (.slice vp bs.length vc) bs)
    (hL : L ≤ 160000) (hm : m.length ≤ L) (hm' : m'.length ≤ L) (hbs : bs.length ≤ 4000) (hK : KTab w) {Q : Exit → Act → World → Prop}
    (hQ : ∀ y5 y8 y37 y38 y39 y40 y41 y42 y43 y44 y45 y46 y47 y48 y49 y50 y51 y52 y53 y54 y55 y56 y57 y58 y59 y60 y61 y62 y63 y64 y65 y66 y67 y68 y69 y70 y71 y72 y73 y74 y75 y76 y77 y78 y79 y80 y81 y82 y83 y84 y85 y86 y87 y88 y89 y90 y91 y92 y93 y94 y95 y96 y97 y98 y99 y100 y101 y102 y103 y104 y105 y106 w', KindDone w w' HB MB (L + 4000) y5 → Q .normal ⟨(z0 :: z1 :: z2 :: .slice (some ⟨HB, 0, none⟩) 2 2 :: .slice (some ⟨MB, 0, none⟩) 2 2 :: y5 :: z6 :: .pointer (some ⟨AB, 0, none⟩) :: y8 :: z9 :: z10 :: z11 :: z12 :: z13 :: z14 :: z15 :: z16 :: z17 :: z18 :: z19 :: z20 :: z21 :: z22 :: z23 :: z24 :: z25 :: z26 :: z27 :: z28 :: z29 :: z30 :: z31 :: z32 :: z33 :: z34 :: z35 :: vu8 k :: y37 :: y38 :: y39 :: y40 :: y41 :: y42 :: y43 :: y44 :: y45 :: y46 :: y47 :: y48 :: y49 :: y50 :: y51 :: y52 :: y53 :: y54 :: y55 :: y56 :: y57 :: y58 :: y59 :: y60 :: y61 :: y62 :: y63 :: y64 :: y65 :: y66 :: y67 :: y68 :: y69 :: y70 :: y71 :: y72 :: y73 :: y74 :: y75 :: y76 :: y77 :: y78 :: y79 :: y80 :: y81 :: y82 :: y83 :: y84 :: y85 :: y86 :: y87 :: y88 :: y89 :: y90 :: y91 :: y92 :: y93 :: y94 :: y95 :: y96 :: y97 :: y98 :: y99 :: y100 :: y101 :: y102 :: y103 :: y104 :: y105 :: y106 :: z107 :: z108 :: z109 :: z110 :: z111 :: z112 :: z113 :: z114 :: z115 :: z116 :: z117 :: z118 :: z119 :: z120 :: z121 :: z122 :: z123 :: z124 :: z125 :: z126 :: z127 :: z128 :: z129 :: z130 :: z131 :: z132 :: z133 :: z134 :: z135 :: z136 :: z137 :: z138 :: z139 :: z140 :: z141 :: z142 :: []).toArray, []⟩ w') :
    Code.wp Tryd.prog kindCode Q ⟨(z0 :: z1 :: z2 :: .slice (some ⟨HB, 0, none⟩) 2 2 :: .slice (some ⟨MB, 0, none⟩) 2 2 :: .int .i64 n :: z6 :: .pointer (some ⟨AB, 0, none⟩) :: z8 :: z9 :: z10 :: z11 :: z12 :: z13 :: z14 :: z15 :: z16 :: z17 :: z18 :: z19 :: z20 :: z21 :: z22 :: z23 :: z24 :: z25 :: z26 :: z27 :: z28 :: z29 :: z30 :: z31 :: z32 :: z33 :: z34 :: z35 :: vu8 k :: z37 :: z38 :: z39 :: z40 :: z41 :: z42 :: z43 :: z44 :: z45 :: z46 :: z47 :: z48 :: z49 :: z50 :: z51 :: z52 :: z53 :: z54 :: z55 :: z56 :: z57 :: z58 :: z59 :: z60 :: z61 :: z62 :: z63 :: z64 :: z65 :: z66 :: z67 :: z68 :: z69 :: z70 :: z71 :: z72 :: z73 :: z74 :: z75 :: z76 :: z77 :: z78 :: z79 :: z80 :: z81 :: z82 :: z83 :: z84 :: z85 :: z86 :: z87 :: z88 :: z89 :: z90 :: z91 :: z92 :: z93 :: z94 :: z95 :: z96 :: z97 :: z98 :: z99 :: z100 :: z101 :: z102 :: z103 :: z104 :: z105 :: z106 :: z107 :: z108 :: z109 :: z110 :: z111 :: z112 :: z113 :: z114 :: z115 :: z116 :: z117 :: z118 :: z119 :: z120 :: z121 :: z122 :: z123 :: z124 :: z125 :: z126 :: z127 :: z128 :: z129 :: z130 :: z131 :: z132 :: z133 :: z134 :: z135 :: z136 :: z137 :: z138 :: z139 :: z140 :: z141 :: z142 :: []).toArray, []⟩ wc := by
  conv => arg 2; whnf
  obtain ⟨sp, sc, rfl⟩ := hI.kept.1.len
  have n1 : 0 ≤ (n : Int) ∧ (n : Int) < 2 := by omega
  have o1 : 0 ≤ (o : Int) ∧ (o : Int) < 2 := by omega
  have no : IntKind.i64.wrap (1 - (n : Int)) = (o : Int) := by
    have : 1 - (n : Int) = (o : Int) := by omega
    rw [this]
    exact IntWalk.i64_in _ (by omega)
  have cH : wc.cell? ⟨HB, n, none⟩ = some (.pointer (some ⟨h, 0, none⟩)) := hI.rowH.cell_of (pairRow_at hn)
  have cM : wc.cell? ⟨MB, n, none⟩ = some (.slice sp m.length sc) := hI.rowM.cell_of (pairRow_at hn)
  have cA : wc.cell? ⟨AB, 1, none⟩ = some (.slice vp bs.length vc) := hAB.cell_of rfl
  have lH := hI.rowH.lt
  have lM := hI.rowM.lt
  have lA := hAB.lt
  have HI := Lib.hid hI
  have HQ := Lib.hid hQ
  have HN := Lib.hid hn
  have HAB := Lib.hid hAB
  have HT := Lib.hid hABt
  clear hI hQ hn hAB hABt
  by_cases k0 : (k.toNat : Int) = 0
  · have hone := HI.out.one
    have hKr := hK.below HI.out.below hK.1
    have h0 : h ≠ 0 := by
      have := hK.1
      have := HI.out.old.2.2.1
      omega
    have lh := hone.lt
    have lw := HI.out.below.size
    have hvc := hv.low HI.out.below
    have hvb : ∀ b o c, Value.slice vp bs.length vc = .slice (some ⟨b, o, none⟩) bs.length c → bs ≠ [] → b < w.heap.size := hv.lt
    obtain ⟨t1, t2, t3, t4⟩ := HI.out.old
    obtain ⟨a1, a2, a3, a4, a5, a6⟩ := HI.out.apart
    have hAh : AB ≠ h := fun e => HT.out (e ▸ .inr (.inr (.inl rfl)))
    have hsb := HI.out.kept.1.lt
    have hsb' := HI.out.kept'.1.lt
    go_upto_region 20 with (first
      | (go_at_call 17; refine (lent_calls wc _ bs hvc (by omega)).mono ?_; rintro e w1 ⟨g, rfl, hg, hl1, hB1⟩
         have cH1 := (hB1.cell (p := ⟨HB, n, none⟩) lH).trans cH)
      | (go_at_call 21; refine (write_slice w1 h m bs _ (hone.below hB1 lh) (hKr.below hB1 hKr.1) h0 (by omega) hl1.slice (by intro b o c e _; cases e; omega)).mono ?_; rintro e w2 ⟨rfl, hh2, hG2⟩
         have cA2 : w2.cell? ⟨AB, 1, none⟩ = some (.slice vp bs.length vc) := (World.grownBy.cell hG2 ((hB1.cell (p := ⟨AB, 1, none⟩) lA).trans cA) (fun e => hAh (by cases e; rfl))))
      | (go_at_call 20; refine (kept_calls w2 g _ bs (hl1.grown hG2 (fun e => by cases e; omega)) ((hvc.low hB1).grown hG2 (fun b o c e hne eb => by have := hvb b o c e hne; cases eb; omega)) (by omega)).mono ?_; rintro e w3 ⟨rfl, hB3⟩
         have hl3 := (hl1.grown hG2 (fun e => by cases e; omega)).low hB3)
      | (go_at_call 26; refine (over_calls w3 g _ (bs.length + 3) (bs ++ lentTail bs.length) hl3 (by omega) (by simp [lentTail_length]) (by omega)).mono ?_; rintro e w4 ⟨rfl, hW4, hG4⟩))
    have hI4 : ScriptIn w w4 HB MB n h h' (.slice sp m.length sc) s' (m ++ bs) m' m m' := by
      have hI3 := (((HI.out.low hB1).write hG2 hh2).low hB3)
      refine hI3.over hG4 (fun k e => ?_) (fun b o c e hne eb => ?_) (fun b o c e hne eb => ?_)
      · cases e
        refine ⟨by omega, ?_⟩
        rintro (e | e | e | e)
        · omega
        · omega
        · omega
        · have := HI.out.two.lt
          omega
      · have := hsb b o c e hne
        cases eb
        omega
      · have := hsb' b o c e hne
        cases eb
        omega
    have z1 := hB1.size
    have z2 := hG2.size
    have z3 := hB3.size
    have z4 := hG4.size
    have cM4 : w4.cell? ⟨MB, n, none⟩ = some (.slice sp m.length sc) := hI4.rowM.cell_of (pairRow_at HN.out)
    have fM4 : w4.frozen? ⟨MB, n, none⟩ = false := hI4.rowM.free n
    have cA4 : w4.cell? ⟨AB, 1, none⟩ = some (.slice vp bs.length vc) := World.grownBy.cell hG4 ((hB3.cell (p := ⟨AB, 1, none⟩) (show AB < w2.heap.size by omega)).trans cA2) (fun e => absurd (show AB = g by simpa using e) (by omega))
    have hv4 : SliceIs w4 (.slice vp bs.length vc) bs := hv.low hI4.below
    have hs4 := hI4.kept.1
    have lM4 := hI4.rowM.lt
    have lA4 : AB < w4.heap.size := by omega
    have HI4 := Lib.hid hI4
    clear hI4 hW4 hG4 hl3 hB3 cA2 hh2 hG2 hl1 hB1 hone hKr hvc hv hsb hsb' hvb cH1 cH cM cA lH lM lA
    have hAM : MB ≠ AB := fun e => HT.out (e ▸ .inr (.inl rfl))
    refine wp_region_noPanic ?_
    go_region_law (first
      | ((refine step_append_slice (by rfl) (.tmp 64) (.tmp 66) (by rfl) w4.heap.size v5 m (by rfl) hO5 (.slice vp bs.length vc) bs (by rfl) ((show SliceIs w4.drew _ bs from hv4).low hB5) (by omega) hB5.size ?_; intro v6 w6 hO6 hG6; have hB6 := hB5.grown hG6 hB5.size hO5.high; have cM6 := (hB6.cell (p := ⟨MB, n, none⟩) lM4).trans cM4; have fM6 := (hB6.frozen (p := ⟨MB, n, none⟩) lM4).trans fM4; obtain ⟨a6, c6, rfl⟩ := hO6.slice.len))
      | ((go_simp; go_at_call 27; refine (copy_calls _ _ m (show SliceIs w4.drew _ m from hs4) (by omega)).mono ?_; rintro e w5 ⟨v5, rfl, hO5, hB5⟩; have cA5 := (hB5.cell (p := ⟨AB, 1, none⟩) lA4).trans cA4)))
    all_goals
      refine NoPanic.normal ?_
      go_wp2
      refine HQ.out _ _ _ _ _ _ _ _ _ _ _ _ _ _ _ _ _ _ _ _ _ _ _ _ _ _ _ _ _ _ _ _ _ _ _ _ _ _ _ _ _ _ _ _ _ _ _ _ _ _ _ _ _ _ _ _ _ _ _ _ _ _ _ _ _ _ _ _ _ _ _ _ _ ?_
      have hB4 : Below w4.heap.size w4 w4.drew := (Below.refl _ _).drew
      have hX : ∀ b, Turned HB MB h h' b → b < w4.heap.size := fun b hb => by
        have := HI4.out.rowH.lt
        have := HI4.out.one.lt
        have := HI4.out.two.lt
        rcases hb with e | e | e | e <;> omega
      rw [List.length_append] at hO6
      exact ⟨n, o, h, h', _, s', m ++ bs, m', HN.out, rfl, by simp; omega, by omega, (HI4.out.low (hB4.trans hB6)).keep HN.out (hO6.off hX)⟩
  by_cases k1 : (k.toNat : Int) = 1
  · have heq := neq_digest (sha m) (sha m) (sha_length m) (sha_length m)
    have hone := HI.out.one
    have hsl := HI.out.kept.1
    have hKr := hK.below HI.out.below hK.1
    go_upto_region 22 with (fail)
    go_region_held3 (fun w' => w'.cell? ⟨HB, n, none⟩ = some (.pointer (some ⟨h, 0, none⟩)) ∧ w'.cell? ⟨MB, n, none⟩ = some (.slice sp m.length sc))
      (first
        | exact ⟨cH, cM⟩
        | exact ⟨(hB4.cell (p := ⟨HB, n, none⟩) lH).trans cH, (hB4.cell (p := ⟨MB, n, none⟩) lM).trans cM⟩
        | exact ⟨(hB5.cell (p := ⟨HB, n, none⟩) (Nat.lt_of_lt_of_le lH hB4.size)).trans ((hB4.cell (p := ⟨HB, n, none⟩) lH).trans cH), (hB5.cell (p := ⟨MB, n, none⟩) (Nat.lt_of_lt_of_le lM hB4.size)).trans ((hB4.cell (p := ⟨MB, n, none⟩) lM).trans cM)⟩
        | go_keep)
      (first
        | ((go_at_call 22; refine (sum_hash _ h m (show HashIs wc.drew h m from hone) (show KTab wc.drew from hKr) (by omega)).mono ?_; rintro e w4 ⟨rfl, hB4⟩))
        | ((go_at_call 19; refine (refsum_calls _ m _ ((show SliceIs wc.drew _ m from hsl).low hB4) (by omega)).mono ?_; rintro e w5 ⟨rfl, hB5⟩)))
    go_wp2
    refine HQ.out _ _ _ _ _ _ _ _ _ _ _ _ _ _ _ _ _ _ _ _ _ _ _ _ _ _ _ _ _ _ _ _ _ _ _ _ _ _ _ _ _ _ _ _ _ _ _ _ _ _ _ _ _ _ _ _ _ _ _ _ _ _ _ _ _ _ _ _ _ _ _ _ _ ?_
    have hB0 : Below wc.heap.size wc wc.drew := (Below.refl _ _).drew
    exact ⟨n, o, h, h', _, s', m, m', HN.out, rfl, by omega, by omega, (HI.out.low (hB0.trans hB4)).low hB5⟩
  by_cases k2 : (k.toNat : Int) = 2
  · have hone := HI.out.one
    have fH : ∀ w1, Below wc.heap.size wc w1 → w1.cell? ⟨HB, o, none⟩ = some (.pointer (some ⟨h', 0, none⟩)) ∧ w1.frozen? ⟨HB, o, none⟩ = false ∧ w1.cell? ⟨MB, n, none⟩ = some (.slice sp m.length sc) ∧ w1.cell? ⟨MB, o, none⟩ = some s' ∧ w1.frozen? ⟨MB, o, none⟩ = false := fun w1 hB => by
      have hJ := HI.out.low hB
      exact ⟨hJ.rowH.cell_of (pairRow_other HN.out), hJ.rowH.free _, hJ.rowM.cell_of (pairRow_at HN.out), hJ.rowM.cell_of (pairRow_other HN.out), hJ.rowM.free _⟩
    have hmh := HI.out.apart.1
    go_wp2_with (go_at_call 24; refine (clone_hash wc h m hone).mono ?_; rintro e w1 ⟨c, rfl, hc, hh1, hB1⟩; obtain ⟨f1, f2, f3, f4, f5⟩ := fH w1 hB1)
    refine HQ.out _ _ _ _ _ _ _ _ _ _ _ _ _ _ _ _ _ _ _ _ _ _ _ _ _ _ _ _ _ _ _ _ _ _ _ _ _ _ _ _ _ _ _ _ _ _ _ _ _ _ _ _ _ _ _ _ _ _ _ _ _ _ _ _ _ _ _ _ _ _ _ _ _ ?_
    exact ⟨o, n, c, h, _, _, m, m, by have := HN.out; omega, rfl, by omega, by omega, (((HI.out.clone HN.out hB1 hc hh1).share HN.out).swap HN.out)⟩
  by_cases k3 : (k.toNat : Int) = 3
  · go_wp2
    refine HQ.out _ _ _ _ _ _ _ _ _ _ _ _ _ _ _ _ _ _ _ _ _ _ _ _ _ _ _ _ _ _ _ _ _ _ _ _ _ _ _ _ _ _ _ _ _ _ _ _ _ _ _ _ _ _ _ _ _ _ _ _ _ _ _ _ _ _ _ _ _ _ _ _ _ ?_
    exact ⟨o, n, h', h, s', _, m', m, by have := HN.out; omega, rfl, by omega, by omega, HI.out.swap HN.out⟩
  · go_wp2
    refine HQ.out _ _ _ _ _ _ _ _ _ _ _ _ _ _ _ _ _ _ _ _ _ _ _ _ _ _ _ _ _ _ _ _ _ _ _ _ _ _ _ _ _ _ _ _ _ _ _ _ _ _ _ _ _ _ _ _ _ _ _ _ _ _ _ _ _ _ _ _ _ _ _ _ _ ?_
    exact ⟨n, o, h, h', _, s', m, m', HN.out, rfl, by omega, by omega, HI.out⟩

end Go.Proofs.YtngklnijmhlikaaDoor
