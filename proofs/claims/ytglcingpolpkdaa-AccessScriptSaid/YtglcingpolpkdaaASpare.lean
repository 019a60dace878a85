/- Lists of texts whose spare cells hold texts too: append, Clone, Tenants, Members, OverTexts. -/
import Derived.Test.YtglcingpolpkdaaABookFX2
import Derived.Test.YtglcingpolpkdaaATeller
namespace Go.Proofs.Ytglcingpolpkdaa
open Go.RowKit

def Txt (x : Value) : Prop := ∃ s : ByteArray, x = .string s ∧ s.size ≤ 1000000
/-- All cells of a list's block are texts, the spare ones too. -/
def Strs (w : World) (v : Value) : Prop := ∀ g, v.ownBlock = some g → ∃ cur, Whole w g 9 cur ∧ ∀ x ∈ cur, Txt x
theorem ok_inj {α : Type} {v v' : α} {w w' : World} (h : Result.ok v w = Result.ok v' w') : v = v' ∧ w = w' := by
  injection h with h1 h2
  exact ⟨h1, h2⟩
theorem Strs.none (w : World) : Strs w (.slice none 0 0) := fun g h => by cases h
theorem Strs.only {w w' : World} {S : Nat → Prop} {v : Value} (h : Strs w v) (ho : Only w w' S) (hs : ∀ g, v.ownBlock = some g → ¬ S g) : Strs w' v := fun g hg => by
  obtain ⟨cur, hW, hc⟩ := h g hg
  exact ⟨cur, hW.only ho (hs g hg), hc⟩
theorem Strs.low {w w' : World} {v : Value} (h : Strs w v) (hb : Below w.heap.size w w') : Strs w' v := h.only (Only.of_below hb fun _ => False) fun _ _ h => h
theorem zero_strs {z : Value} (hz : z = .string ⟨#[]⟩) (n : Nat) : ∀ x ∈ (Builtin.zeroCells z.cells n).toList, Txt x := by
  subst hz
  intro x hx
  simp [Builtin.zeroCells, Value.cells] at hx
  obtain ⟨i, _, rfl⟩ := hx
  exact ⟨⟨#[]⟩, by simp [Nat.mod_one], by decide⟩

theorem append_strs {w : World} (B : Nat) (t ty : TypeId) (i : TypeInfo) (ht : Try.prog.underlying t = some (.slice 9)) (hi : Try.prog.info? 9 = some i) (hz : i.zero = some (.string ⟨#[]⟩)) (hsize : i.size = 1) (hby : i.bytes = 16)
    (v : Value) (n : Nat) (xs : List Value) (hown : w.ownsRow B 9 1 v n xs) (hS : Strs w v) (hxs : ∀ u ∈ xs, Txt u)
    (a : Addr) (m c : Nat) (news : List Value) (hl : news.length = m) (hnews : ∀ j u, news[j]? = some u → w.cell? (a.add j) = some u) (h1 : ∀ u ∈ news, Txt u)
    (hbig : n + m ≤ 1000000) (hbase : B ≤ w.heap.size) :
    ∃ v' w', (Builtin.append_ #[t, t] ty #[v, .slice (some a) m c]).run Try.prog w = .ok v' w' ∧ w'.ownsRow B 9 1 v' (n + m) (xs ++ news) ∧ w.grownBy w' v.ownBlock ∧ Strs w' v' := by
  have hone : ∀ u ∈ news, u.oneCell' = true := fun u hu => by
    obtain ⟨s, rfl, _⟩ := h1 u hu
    rfl
  have hl1 : news.length = m * 1 := by omega
  have hl2 : news.length = m * i.size := by rw [hsize]; omega
  obtain ⟨v', w', hr, h2, h3, h4, _⟩ := run_append_own_at (P := Try.prog) w B t ty 9 i _ 1 16 ht hi hz hsize hby rfl (by decide) v n xs hown a m c news hl1 hnews hone (by simp only [maxLen]; omega) (by omega) hbase
  refine ⟨v', w', hr, h2, h3, fun g hg => ?_⟩
  have strs3 : ∀ k, ∀ x ∈ (xs.toArray ++ news.toArray ++ Builtin.zeroCells (Value.string ⟨#[]⟩).cells k).toList, Txt x := fun k x hx => by
    simp only [Array.toList_append, List.mem_append] at hx
    rcases hx with (hx | hx) | hx
    · exact hxs x (by simpa using hx)
    · exact h1 x (by simpa using hx)
    · exact zero_strs rfl k x hx
  rcases hown.2 with ⟨rfl, rfl⟩ | ⟨b, cap, cur, rfl, hbg, hbb, hnc, hcm, hcs, htake⟩
  · obtain rfl : xs = [] := List.eq_nil_of_length_eq_zero (by simpa using hown.1)
    by_cases hm : m = 0
    · rw [h4.2 ⟨rfl, hm⟩] at hg
      cases hg
    · have hr2 := run_append_nil (P := Try.prog) w t ty 9 i _ ht hi hz a m c news hl2 hnews (by omega) (by omega) (by rw [hby]; omega)
      obtain ⟨rfl, rfl⟩ := ok_inj (hr.symm.trans hr2)
      have hg := Option.some.inj hg
      subst hg
      have s3 := strs3 (grownCap w m 0 9 - m)
      simp only [Array.empty_append] at s3
      exact ⟨_, heap_alloc_new w.drew _, s3⟩
  · by_cases hroom : n + m ≤ cap
    · have hr2 := run_append_room (P := Try.prog) w t ty 9 i ht hi b n cap cur hbb a m c news hl2 hnews hone hroom (by rw [hsize, hl, hcs]; omega)
      obtain ⟨rfl, rfl⟩ := ok_inj (hr.symm.trans hr2)
      have hg := Option.some.inj hg
      subst hg
      refine ⟨_, setRow_heap w b cur _ 9 _ hbb, fun x hx => ?_⟩
      obtain ⟨cur2, hW, hc⟩ := hS b rfl
      have hcur : cur2 = cur.toList := by
        have e := Option.some.inj (hbb.symm.trans hW)
        rw [(Obj.cells.inj e).1]
      subst hcur
      simp only [List.mem_append] at hx
      rcases hx with (hx | hx) | hx
      · exact hc x (List.mem_of_mem_take hx)
      · exact h1 x hx
      · exact hc x (List.mem_of_mem_drop hx)
    · have holds : ∀ j u, xs[j]? = some u → w.cell? ((⟨b, 0, none⟩ : Addr).add j) = some u := hown.cells (g := b) rfl
      have hr2 := run_append_grow (P := Try.prog) w t ty 9 i _ ht hi hz ⟨b, 0, none⟩ n cap xs (by rw [hown.1, hsize]) holds a m c news hl2 hnews (by omega) (by omega) (growslice_fits (by omega) (by rw [hby]; omega))
      obtain ⟨rfl, rfl⟩ := ok_inj (hr.symm.trans hr2)
      have hg := Option.some.inj hg
      subst hg
      exact ⟨_, heap_alloc_new w.drew _, strs3 _⟩

theorem wpList_append_strs {w : World} {ops : Array Oper} {rest : List Oper} {o : Oper} {a : Act} {Q : Exit → Act → World → Prop} (hgd : o.guard = none) (s x : Operand)
    (ho : o.op = .call { callee := .builtin .append, args := #[s, x], argTypes := #[33, 33] })
    (B : Nat) (v : Value) (l : List ByteArray) (hs : a.eval s = v) (hown : OwnS w B v l) (hS : Strs w v) (hl0 : ∀ u ∈ l, u.size ≤ 1000000)
    (ad : Addr) (c : Nat) (news : List ByteArray) (hx : a.eval x = .slice (some ad) news.length c) (hnews : ∀ j u, news[j]? = some u → w.cell? (ad.add j) = some (.string u)) (h1 : ∀ u ∈ news, u.size ≤ 1000000)
    (hbig : l.length + news.length ≤ 1000000) (hbase : B ≤ w.heap.size)
    (h : ∀ v' w', OwnS w' B v' (l ++ news) → w.grownBy w' v.ownBlock → Strs w' v' → wpList Try.prog ops Q rest (a.put o.dst v') w') :
    wpList Try.prog ops Q (o :: rest) a w := by
  refine wpList_plain hgd fun K hK => ?_
  obtain ⟨i, hi, hz, hsz, hby⟩ := info_str
  obtain ⟨v', w', hr, h2, h3, h4⟩ := append_strs B 33 o.type i Try.underlying33 hi hz hsz hby v l.length (l.map Value.string) hown hS (fun u hu => by
    obtain ⟨y, hy, rfl⟩ := List.mem_map.1 hu
    exact ⟨y, rfl, hl0 y hy⟩) ad news.length c (news.map Value.string) (by simp) (fun j u hj => by
    rw [List.getElem?_map] at hj
    obtain ⟨y, hy, rfl⟩ := Option.map_eq_some_iff.1 hj
    exact hnews j y hy) (fun u hu => by
    obtain ⟨y, hy, rfl⟩ := List.mem_map.1 hu
    exact ⟨y, rfl, h1 y hy⟩) hbig hbase
  unfold Oper.wp execOp
  simp only [ho, resolve, invoke, builtin, Sem.run_bind, Sem.run_pure, Result.andThen_ok, List.map_toArray, List.map_cons, List.map_nil, hs, hx, hr]
  refine hK _ _ (h v' w' ?_ h3 h4)
  unfold OwnS
  rw [List.length_append, List.map_append]
  exact h2

theorem wpList_append_str1 {w : World} {ops : Array Oper} {rest : List Oper} {o : Oper} {a : Act} {Q : Exit → Act → World → Prop} (hgd : o.guard = none) (s x : Operand)
    (ho : o.op = .call { callee := .builtin .append, args := #[s, x], argTypes := #[33, 33] })
    (B g : Nat) (v : Value) (l : List ByteArray) (hs : a.eval s = v) (hown : OwnS w B v l) (hS : Strs w v) (hl0 : ∀ u ∈ l, u.size ≤ 1000000) (c : ByteArray) (hc : c.size ≤ 1000000)
    (hx : a.eval x = .slice (some ⟨g, 0, none⟩) 1 1) (hg : w.heap.size = g) (hlen : l.length + 1 ≤ 1000000) (hbase : B ≤ w.heap.size)
    (h : ∀ v' w', OwnS w' B v' (l ++ [c]) → w.grownBy w' v.ownBlock → Strs w' v' → wpList Try.prog ops Q rest (a.put o.dst v') w') :
    wpList Try.prog ops Q (o :: rest) a (w.alloc (.cells #[.string c] 9)) := by
  subst hg
  refine wpList_append_strs hgd s x ho B v l hs (World.ownsRow.alloc hown _) (hS.low ((Below.refl _ _).alloc (Nat.le_refl _) _)) hl0 ⟨w.heap.size, 0, none⟩ 1 [c] hx (fun j u hj => ?_) (fun u hu => by rw [List.mem_singleton.1 hu]; exact hc) hlen (by simp; omega) fun v' w' h1 h2 h3 => h v' w' h1 (grown_trans (grown_alloc (World.grownBy.refl _ _) _) h2) h3
  have hj0 : j = 0 := by
    have := (List.getElem?_eq_some_iff.1 hj).1
    simpa using this
  subst hj0
  have : c = u := by simpa using hj
  subst this
  rw [Addr.add_lit]
  exact (Whole.new w _ #[.string c]).cell 0

theorem Strs.lit (w : World) : Strs (w.alloc (.cells #[] 9)) (.slice (some ⟨w.heap.size, 0, Option.none⟩) 0 0) := fun g hg => by
  have hg := Option.some.inj hg
  subst hg
  exact ⟨[], Whole.new w 9 #[], fun x hx => by cases hx⟩
theorem OwnS.lit (w : World) : OwnS (w.alloc (.cells #[] 9)) w.heap.size (.slice (some ⟨w.heap.size, 0, Option.none⟩) 0 0) [] := World.ownsRow_lit w #[] 0 (Nat.le_refl _) (by decide) (by simp)

set_option maxRecDepth 100000 in
set_option maxHeartbeats 1000000 in
/-- slices.Clone of texts, its spare cells too. -/
theorem clonestrs_calls (w : World) (B : Nat) (v : Value) (l : List ByteArray) (hv : OwnS w B v l) (hl : l.length ≤ 1000) (hs : ∀ u ∈ l, u.size ≤ 1000000) :
    Calls Try.prog 56 #[v] w fun e w' => ∃ v', e = .returned v' ∧ OwnS w' w.heap.size v' l ∧ Strs w' v' ∧ Below w.heap.size w w' := by
  rcases row_shape hv with ⟨rfl, hn⟩ | ⟨g, cap, rfl, _, hg, hc⟩
  · obtain rfl : l = [] := List.eq_nil_of_length_eq_zero hn
    have q0 := Lib.run_eql_slice_nil (P := Try.prog) w 33 9 none 0 0 0 0 Try.underlying33
    clear hv hn
    go_enter Try.func56, Try.ntmps56
    go_wp2
    go_ret
    exact ⟨_, rfl, OwnS.nil _ _, Strs.none _, Below.refl _ _⟩
  · have hA1 : Below w.heap.size w (w.alloc (.cells #[] 9)) := (Below.refl _ _).alloc (Nat.le_refl _) _
    have HC := Lib.hid (fun (j : Nat) (u : ByteArray) (hj : l[j]? = some u) => show (w.alloc (.cells #[] 9)).cell? ((⟨g, 0, none⟩ : Addr).add j) = some (.string u) by
      rw [Addr.add_lit, Nat.zero_add, hA1.cell (p := ⟨g, j, none⟩) hg]
      exact hc j _ (by rw [List.getElem?_map, hj]; rfl))
    have HS := Lib.hid hs
    have q0 := Lib.run_eql_slice_nil (P := Try.prog) w 33 9 (some ⟨g, 0, none⟩) l.length cap 0 0 Try.underlying33
    clear hv hc hg hs
    go_enter Try.func56, Try.ntmps56
    go_wp2_with (refine wpList_append_strs (by rfl) _ _ (by rfl) w.heap.size _ [] (by rfl) (OwnS.lit w) (Strs.lit w) (fun u hu => by cases hu) ⟨g, 0, none⟩ cap l (by rfl) HC.out HS.out (by simp; omega) (by simp) ?_; intro v5 w5 hO5 hG5 hS5; have hB5 : Below w.heap.size w w5 := hA1.trans ((Only.of_grown hG5).below (by simp) fun _ _ e => own_ge (OwnS.lit w) e))
    go_ret
    exact ⟨_, rfl, hO5, hS5, hB5⟩

set_option maxRecDepth 100000 in
set_option maxHeartbeats 1000000 in
theorem tenants_strs (W w : World) (b m : Nat) (nv : Value) (ts : List Tn) (ads : List Ad) (h : Books W w b m nv ts ads) (hc : Inv ts) :
    Calls Try.prog 23 #[.pointer (some ⟨b, 0, none⟩)] w fun e w' => ∃ v, e = .returned v ∧ OwnS w' w.heap.size v (ts.map Tn.name) ∧ Strs w' v ∧ Below w.heap.size w w' := by
  have mk := made_calls w b m (h.book.book.cell 1)
  have c0 := h.book.book.cell 0
  have HC := Lib.hid (clonestrs_calls w W.heap.size nv _ h.book.names (by have := hc.cap.len; simp; omega) (fun u hu => by obtain ⟨t, ht, rfl⟩ := List.mem_map.1 hu; exact (hc.small t ht).1))
  clear h hc
  go_enter Try.func23, Try.ntmps23
  go_wp2_with (first
    | (go_at_call 42; refine mk.mono ?_; rintro e w' ⟨rfl, hw⟩; rw [hw]; clear hw)
    | (go_at_call 56; refine HC.out.mono ?_; rintro e w1 ⟨v, rfl, hO, hS, hB⟩))
  go_ret
  exact ⟨_, rfl, hO, hS, hB⟩

set_option maxRecDepth 100000 in
set_option maxHeartbeats 2000000 in
theorem members_strs (W w : World) (b m : Nat) (nv : Value) (ts : List Tn) (ads : List Ad) (name role : ByteArray) (h : Books W w b m nv ts ads) (hc : Inv ts) :
    Calls Try.prog 25 #[.pointer (some ⟨b, 0, none⟩), .string name, .string role] w fun e w' => ∃ v, e = .returned v ∧ OwnS w' w.heap.size v (whoHas (memsT ts name) role) ∧ Strs w' v ∧ Below w.heap.size w w' := by
  have mk := made_calls w b m (h.book.book.cell 1)
  have c1 := h.book.book.cell 1
  have hz : ∀ w : World, (zeroValue 97).run Try.prog w = .ok (.pointer none) w := fun w => by kernel_rfl
  have hlk := look_S Try.underlying44 Try.underlying9 h.book.all name (hz w)
  unfold memsT
  cases hg : getT ts name with
  | none =>
    rw [find_none h hg] at hlk
    clear h hc hz hg
    go_enter Try.func25, Try.ntmps25
    go_wp2_with (go_at_call 42; refine mk.mono ?_; rintro e w' ⟨rfl, hw⟩; rw [hw]; clear hw)
    go_ret
    exact ⟨_, rfl, OwnS.nil _ _, Strs.none _, Below.refl _ _⟩
  | some p =>
    obtain ⟨i, t⟩ := p
    obtain ⟨a, ht, _, _, hf, hT⟩ := find_book h hg
    rw [hf] at hlk
    have t1 := hT.ten.cell 1
    have hsz := (hc.small t (List.mem_of_getElem? ht)).2
    have hml := hc.cap.ms t (List.mem_of_getElem? ht)
    obtain ⟨N, hN⟩ : ∃ N, t.ms.length = N := ⟨_, rfl⟩
    obtain ⟨q, cm, hv⟩ := slice_of_row hT.mems
    rw [hN] at hv hml
    rw [hv] at t1
    have hM : OwnM w W.heap.size (.slice q N cm) t.ms := hv ▸ hT.mems
    have HM := Lib.hid hM
    have HSZ := Lib.hid (fun (k : Nat) (u : ByteArray) (hu : u ∈ whoHas (t.ms.take k) role) => show u.size ≤ 1000000 by
      obtain ⟨p, hp, rfl⟩ := List.mem_map.1 hu
      exact hsz p (List.mem_of_mem_take (List.mem_filter.1 hp).1))
    have HSM := Lib.hid hsz
    have HN := Lib.hid hN
    clear h hc hz hg hT hf ht hN hv hM hsz
    go_enter Try.func25, Try.ntmps25
    go_wp2_with (go_at_call 42; refine mk.mono ?_; rintro e w' ⟨rfl, hw⟩; rw [hw]; clear hw)
    go_loopw [7, 31] (fun v j wr => ∃ k : Nat, k ≤ N ∧ j = .int .i64 k ∧ OwnS wr w.heap.size v (whoHas (t.ms.take k) role) ∧ Strs wr v ∧ Below w.heap.size w wr) (fun _ j _ => N - (intOf j).toNat)
    case atStart => exact ⟨0, by omega, rfl, by simpa [whoHas] using OwnS.nil w _, Strs.none _, Below.refl _ _⟩
    case round =>
      obtain ⟨k, hk, rfl, hO, hSr, hBr⟩ := hrel
      by_cases hlt : k < N
      · obtain ⟨⟨mr, mem⟩, hp⟩ : ∃ p, t.ms[k]? = some p := ⟨_, List.getElem?_eq_getElem (by rw [HN.out]; exact hlt)⟩
        obtain ⟨mg, cap, he, hmg, h0, h1⟩ := HM.out.two hp
        have he : q = some ⟨mg, 0, none⟩ := by injection he
        subst he
        have d0 : wr.cell? ⟨mg, k * 2, none⟩ = some (.string mr) := (hBr.cell (p := ⟨mg, k * 2, none⟩) hmg).trans h0
        have d1 : wr.cell? ⟨mg, k * 2 + 1, none⟩ = some (.string mem) := (hBr.cell (p := ⟨mg, k * 2 + 1, none⟩) hmg).trans h1
        have i1 : (k : Int) < (N : Int) := by omega
        have i2 : 0 ≤ (k : Int) ∧ (k : Int) < (N : Int) := by omega
        have b2 : IntKind.i64.wrap ((k : Int) + 1) = (k : Int) + 1 := IntWalk.i64_in _ (by omega)
        have hnx := whoHas_next role hp
        have hle := whoHas_le (t.ms.take k) role
        have hlk2 : (t.ms.take k).length ≤ k := by simp; omega
        have HP := Lib.hid (And.intro hnx (And.intro hle hlk2))
        have HO := Lib.hid (World.ownsRow.alloc hO (.cells #[.string mr, .string mem] 106))
        have hBA : Below wr.heap.size wr (wr.alloc (.cells #[.string mr, .string mem] 106)) := (Below.refl _ _).alloc (Nat.le_refl _) _
        have HSA := Lib.hid (hSr.low hBA)
        have HME := Lib.hid (HSM.out _ (List.mem_of_getElem? hp))
        have HG := Lib.hid (fun (x : Nat) hx => own_ge (x := x) hO hx)
        clear hnx hle hlk2 hp hO h0 h1 hSr hBA
        go_wp2_with (refine wpList_append_str1 (w := wr.alloc (.cells #[.string mr, .string mem] 106)) (by rfl) _ _ (by rfl) w.heap.size (wr.heap.size + 1) _ _ (by rfl) HO.out HSA.out (HSZ.out k) mem HME.out (by rfl) (by simp) (by have := HP.out; omega) (by have := hBr.size; simp; omega) ?_; intro v1 w1 hO1 hG1 hS1)
        · have hmw : mr.toList = role.toList := by simpa using (by assumption : (mr.toList == role.toList) = true)
          go_roundw
          case rel => exact ⟨k + 1, by omega, by go_num, by rw [HP.out.1, if_pos hmw]; exact hO1, hS1, (hBr.alloc hBr.size _).grown hG1 (by have := hBr.size; simp; omega) (fun j hj => HG.out j hj)⟩
          case measure => simp [intOf]; omega
        · have hmw : ¬ mr.toList = role.toList := by first | (simpa using (by assumption : ¬ (mr.toList == role.toList) = true)) | (simpa using (by assumption : (mr.toList == role.toList) = false)) | assumption
          go_roundw
          case rel => exact ⟨k + 1, by omega, by go_num, by rw [HP.out.1, if_neg hmw, List.append_nil]; exact HO.out, HSA.out, hBr.alloc hBr.size _⟩
          case measure => simp [intOf]; omega
      · obtain rfl : k = N := by omega
        rw [← HN.out, List.take_length] at hO
        have i1 : ¬ (k : Int) < (k : Int) := by omega
        go_wp2
        go_ret
        exact ⟨_, rfl, hO, hSr, hBr⟩

/-- OverTexts writes the list's own block alone. -/
def OverS (w : World) (g c j : Nat) : Prop := ∃ cur, Whole w g 9 cur ∧ cur.length = c ∧ ∀ i x, j ≤ i → cur[i]? = some x → Txt x

set_option maxRecDepth 100000 in
set_option maxHeartbeats 1000000 in
theorem overtexts_calls (w : World) (B : Nat) (v : Value) (l : List ByteArray) (hv : OwnS w B v l) (hS : Strs w v) :
    Calls Try.prog 69 #[v] w fun e w' => e = .returned (.tuple #[]) ∧ Only w w' fun k => v.ownBlock = some k := by
  by_cases hg0 : v.ownBlock = none
  · rcases row_shape hv with ⟨rfl, _⟩ | ⟨g, cap, rfl, _, _, _⟩
    · clear hv hS hg0
      go_enter Try.func69, Try.ntmps69
      go_wp2
      go_loopw [3] (fun i wr => i = .int .i64 0 ∧ w = wr) (fun _ _ => 0)
      case atStart => exact ⟨rfl, rfl⟩
      case round =>
        obtain ⟨rfl, rfl⟩ := hrel
        go_wp2
        go_end0
        exact ⟨rfl, Only.of_below (Below.refl _ _) _⟩
    · cases hg0
  · obtain ⟨g, hg⟩ := Option.ne_none_iff_exists'.1 hg0
    obtain ⟨c, cur, rfl, hB, hW, hle, hmax, hcl⟩ := own_full hv hg
    obtain ⟨cur2, hW2, hT⟩ := hS g hg
    have hc : cur2 = cur := by
      unfold Whole at hW hW2
      rw [hW] at hW2
      injection hW2 with hW2
      injection hW2 with hW2
      exact (congrArg Array.toList hW2).symm
    subst hc
    have h0 : OverS w g c 0 := ⟨cur2, hW, by omega, fun i x _ hx => hT x (List.mem_of_getElem? hx)⟩
    simp only [maxLen] at hmax
    generalize l.length = n at hle
    have e0 : (Value.slice (some ⟨g, 0, none⟩) n c).ownBlock = some g := rfl
    rw [e0]
    clear hv hS hg0 hg hB hW hcl hW2 hT e0
    go_enter Try.func69, Try.ntmps69
    go_wp2
    go_loopw [3] (fun i wr => ∃ j : Nat, j ≤ c ∧ i = .int .i64 j ∧ OverS wr g c j ∧ Only w wr fun k => some g = some k) (fun i _ => c - (intOf i).toNat)
    case atStart => exact ⟨0, by omega, rfl, h0, Only.of_below (Below.refl _ _) _⟩
    case round =>
      clear h0
      obtain ⟨j, hj, rfl, ⟨cur, hW, hcl, hT⟩, hO⟩ := hrel
      by_cases hlt : j < c
      · have i1 : (j : Int) < (c : Int) := by omega
        have i2 : 0 ≤ (j : Int) ∧ (j : Int) < (c : Int) := by omega
        have b2 : IntKind.i64.wrap ((j : Int) + 1) = (j : Int) + 1 := IntWalk.i64_in _ (by omega)
        obtain ⟨x, hx⟩ : ∃ x, cur[j]? = some x := ⟨_, List.getElem?_eq_getElem (by omega)⟩
        obtain ⟨y, rfl, hy⟩ := hT j x (Nat.le_refl _) hx
        have c0 : wr.cell? ⟨g, j, none⟩ = some (.string y) := hW.cell_of hx
        have hfree := hW.free j
        have HT := Lib.hid (And.intro hcl hT)
        have HW := Lib.hid hW
        clear hx hW hcl hT
        go_wp2
        go_roundw
        case rel =>
          refine ⟨j + 1, by omega, by go_num, ⟨_, HW.out.put j _, by simpa using HT.out.1, fun i x hi hx => HT.out.2 i x (by omega) ?_⟩, (hO.trans (Only.set wr ⟨g, j, none⟩ _)).weak fun i _ hi => hi.elim id fun e => by rw [e]⟩
          rwa [List.getElem?_set_ne (by omega)] at hx
        case measure => simp [intOf]; omega
      · obtain rfl : j = c := by omega
        have i1 : ¬ (j : Int) < (j : Int) := by omega
        clear hW hT
        go_wp2
        go_end0
        exact ⟨rfl, hO.weak fun _ _ e => Option.some.inj e⟩

end Go.Proofs.Ytglcingpolpkdaa
