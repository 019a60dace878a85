/- The book and the reference's book side by side: what one writes the other keeps. -/
import Derived.Test.YtglcingpolpkdaaRStep
import Derived.Test.YtglcingpolpkdaaRTurnX2
namespace Go.Proofs.Ytglcingpolpkdaa
open Go.RowKit

def HasTy (w : World) (g : Nat) (e : TypeId) : Prop := ∃ cur, w.heap[g]? = some (.cells cur e (0, 0))
theorem HasTy.of {w : World} {g : Nat} {t : TypeId} {l : List Value} (h : Whole w g t l) : HasTy w g t := ⟨_, h⟩
theorem HasTy.one {w : World} {g : Nat} {t u : TypeId} (h : HasTy w g t) (k : HasTy w g u) : t = u := by
  obtain ⟨a, h⟩ := h
  obtain ⟨b, k⟩ := k
  rw [h] at k
  injection k with k
  injection k with _ k _
theorem HasTy.noMap {w : World} {g : Nat} {t : TypeId} {ents : Array MapEntry} {c : Nat} (h : HasTy w g t) (k : w.heap[g]? = some (.map ents c)) : False := by
  obtain ⟨a, h⟩ := h
  rw [h] at k
  cases k

/-- The blocks of the book. -/
def ProgS (b m : Nat) (nv : Value) (ads : List Ad) (k : Nat) : Prop := k = b ∨ k = m ∨ nv.ownBlock = some k ∨ ∃ a ∈ ads, a.foot k
/-- The blocks of the reference's book. -/
def RefS (m : Nat) (lv : Value) (xs : List (ByteArray × Value × Value)) (k : Nat) : Prop := k = m ∨ lv.ownBlock = some k ∨ ∃ x ∈ xs, x.2.1.ownBlock = some k ∨ x.2.2.ownBlock = some k
def Apart (ads : List Ad) (xs : List (ByteArray × Value × Value)) : Prop := ∀ a ∈ ads, ∀ x ∈ xs, ∀ k, a.foot k → x.2.2.ownBlock = some k → False

theorem Books.at {W w : World} {b m : Nat} {nv : Value} {ts : List Tn} {ads : List Ad} (h : Books W w b m nv ts ads) {a : Ad} (ha : a ∈ ads) : ∃ t ∈ ts, TenOwn W w a.t a.rv a.mv a.mi t.rules t.ms := by
  obtain ⟨i, hi⟩ := List.mem_iff_getElem?.1 ha
  have hl : i < ts.length := by rw [← h.len]; exact (List.getElem?_eq_some_iff.1 hi).1
  exact ⟨_, List.getElem_mem hl, h.each i _ a (List.getElem?_eq_getElem hl) hi⟩
theorem RefBook.at {W w : World} {m : Nat} {lv : Value} {xs : List (ByteArray × Value × Value)} {ts : List Tn} (h : RefBook W w m lv xs ts) {x : ByteArray × Value × Value} (hx : x ∈ xs) : ∃ t ∈ ts, OwnN w W.heap.size x.2.1 t.ms ∧ OwnR w W.heap.size x.2.2 t.rules := by
  obtain ⟨i, hi⟩ := List.mem_iff_getElem?.1 hx
  have hl : i < ts.length := by rw [← h.len]; exact (List.getElem?_eq_some_iff.1 hi).1
  exact ⟨_, List.getElem_mem hl, (h.each i x _ hi (List.getElem?_eq_getElem hl)).2⟩

theorem Books.ty {W w : World} {b m : Nat} {nv : Value} {ts : List Tn} {ads : List Ad} (h : Books W w b m nv ts ads) {k : Nat} (hk : ProgS b m nv ads k) :
    (∃ ents c, w.heap[k]? = some (.map ents c)) ∨ HasTy w k 46 ∨ HasTy w k 9 ∨ HasTy w k 101 ∨ HasTy w k 106 ∨ (HasTy w k 29 ∧ ∃ a ∈ ads, a.foot k) := by
  rcases hk with rfl | rfl | hk | ⟨a, ha, hk⟩
  · exact .inr (.inl (.of h.book.book))
  · obtain ⟨ents, c, hm, _⟩ := h.book.all
    exact .inl ⟨ents, c, hm⟩
  · exact .inr (.inr (.inl (row_type h.book.names hk)))
  · obtain ⟨t, _, hT⟩ := h.at ha
    have hk0 := hk
    rcases hk with rfl | rfl | hk | hk
    · exact .inr (.inr (.inr (.inl (.of hT.ten))))
    · obtain ⟨ents, c, hm, _⟩ := hT.isIn
      exact .inl ⟨ents, c, hm⟩
    · exact .inr (.inr (.inr (.inr (.inr ⟨row_type hT.rules hk, a, ha, hk0⟩))))
    · exact .inr (.inr (.inr (.inr (.inl (row_type hT.mems hk)))))
theorem RefBook.ty {W w : World} {m : Nat} {lv : Value} {xs : List (ByteArray × Value × Value)} {ts : List Tn} (h : RefBook W w m lv xs ts) {k : Nat} (hk : RefS m lv xs k) :
    HasTy w k 56 ∨ HasTy w k 141 ∨ HasTy w k 144 ∨ (HasTy w k 29 ∧ ∃ x ∈ xs, x.2.2.ownBlock = some k) := by
  rcases hk with rfl | hk | ⟨x, hx, hk⟩
  · exact .inl (.of h.book)
  · exact .inr (.inl (row_type h.row hk))
  · obtain ⟨t, _, h1, h2⟩ := h.at hx
    rcases hk with hk | hk
    · exact .inr (.inr (.inl (row_type h1 hk)))
    · exact .inr (.inr (.inr ⟨row_type h2 hk, x, hx, hk⟩))
theorem clash {W w : World} {b m g : Nat} {nv lv : Value} {ts us : List Tn} {ads : List Ad} {xs : List (ByteArray × Value × Value)} (h : Books W w b m nv ts ads) (r : RefBook W w g lv xs us) (p : Apart ads xs) {k : Nat} (h1 : ProgS b m nv ads k) (h2 : RefS g lv xs k) : False := by
  rcases h.ty h1 with ⟨_, _, hm⟩ | hp | hp | hp | hp | ⟨hp, a, ha, hf⟩ <;> rcases r.ty h2 with hq | hq | hq | ⟨hq, x, hx, hk⟩ <;> first
    | exact hq.noMap hm
    | exact p a ha x hx k hf hk
    | exact absurd (hp.one hq) (by decide)

theorem Books.only {W w w' : World} {S : Nat → Prop} {b m : Nat} {nv : Value} {ts : List Tn} {ads : List Ad} (h : Books W w b m nv ts ads) (ho : Only w w' S) (hB : Below W.heap.size W w') (hs : ∀ k, ProgS b m nv ads k → ¬ S k) : Books W w' b m nv ts ads :=
  ⟨h.len, ⟨h.book.book.only ho (hs _ (.inl rfl)), row_only h.book.names ho (fun g hg => hs g (.inr (.inr (.inl hg)))), h.book.all.only ho (hs _ (.inr (.inl rfl))), h.book.geb, h.book.gem, hB⟩,
    fun i t a ht ha => (h.each i t a ht ha).only ho fun k hk => hs k (.inr (.inr (.inr ⟨a, List.mem_of_getElem? ha, hk⟩))), h.apart, h.off⟩
theorem RefBook.only {W w w' : World} {S : Nat → Prop} {m : Nat} {lv : Value} {xs : List (ByteArray × Value × Value)} {ts : List Tn} (h : RefBook W w m lv xs ts) (ho : Only w w' S) (hB : Below W.heap.size W w') (hs : ∀ k, RefS m lv xs k → ¬ S k) : RefBook W w' m lv xs ts :=
  ⟨h.book.only ho (hs _ (.inl rfl)), row_only h.row ho (fun g hg => hs g (.inr (.inl hg))), h.len, fun i x t hx ht => by
    obtain ⟨h1, h2, h3⟩ := h.each i x t hx ht
    exact ⟨h1, row_only h2 ho fun g hg => hs g (.inr (.inr ⟨x, List.mem_of_getElem? hx, .inl hg⟩)), row_only h3 ho fun g hg => hs g (.inr (.inr ⟨x, List.mem_of_getElem? hx, .inr hg⟩))⟩, h.gem, hB⟩

/-- Both books, their blocks apart. -/
def Duo (W w : World) (b g : Nat) (ts us : List Tn) : Prop := ∃ m nv ads lv xs, Books W w b m nv ts ads ∧ RefBook W w g lv xs us ∧ Apart ads xs
theorem Duo.on {W w w' : World} {b g : Nat} {ts us : List Tn} (h : Duo W w b g ts us) (hb : Below w.heap.size w w') : Duo W w' b g ts us := by
  obtain ⟨m, nv, ads, lv, xs, h1, h2, h3⟩ := h
  exact ⟨m, nv, ads, lv, xs, h1.on hb, h2.on hb, h3⟩
theorem Duo.below {W w : World} {b g : Nat} {ts us : List Tn} (h : Duo W w b g ts us) : Below W.heap.size W w := by
  obtain ⟨m, nv, ads, lv, xs, h1, h2, h3⟩ := h
  exact h2.below
theorem Duo.ref {W w : World} {b g : Nat} {ts us : List Tn} (h : Duo W w b g ts us) : RefIs W w g us := by
  obtain ⟨m, nv, ads, lv, xs, h1, h2, h3⟩ := h
  exact ⟨lv, xs, h2⟩
/-- Calls of the law, which lie by themselves, stay. -/
def Keep (w w' : World) : Prop := ∀ k l, Whole w k 38 l → Whole w' k 38 l
theorem Keep.trans {a b c : World} (h : Keep a b) (k : Keep b c) : Keep a c := fun i l hl => k i l (h i l hl)
theorem Keep.of {w w' : World} (h : Below w.heap.size w w') : Keep w w' := fun _ _ hl => hl.below h hl.lt
theorem duo_step {W w w' : World} {b m g : Nat} {nv lv : Value} {ts us ts' : List Tn} {ads : List Ad} {xs : List (ByteArray × Value × Value)} (h : Books W w b m nv ts ads) (r : RefBook W w g lv xs us) (p : Apart ads xs) (s : Step W w w' b m nv ads ts') : Duo W w' b g ts' us ∧ Keep w w' := by
  obtain ⟨nv', ads', h', ho, hf⟩ := s
  refine ⟨⟨m, nv', ads', lv, xs, h', r.only ho h'.book.below fun k hk hs => clash h r p hs hk, fun a ha x hx k h1 h2 => ?_⟩, fun k l hl => hl.only ho fun hs => ?_⟩
  rotate_left
  · rcases h.ty hs with ⟨_, _, hm⟩ | hp | hp | hp | hp | ⟨hp, _⟩ <;> first
      | exact (HasTy.of hl).noMap hm
      | exact absurd (hp.one (.of hl)) (by decide)
  rcases hf a ha k h1 with ⟨c, hc, h3⟩ | h3
  · exact p c hc x hx k h3 h2
  · obtain ⟨_, _, _, h4⟩ := r.at hx
    have := row_lt h4 h2
    omega
theorem duo_rstep {W w w' : World} {b m g : Nat} {nv lv : Value} {ts us us' : List Tn} {ads : List Ad} {xs : List (ByteArray × Value × Value)} (h : Books W w b m nv ts ads) (r : RefBook W w g lv xs us) (p : Apart ads xs) (s : RStep W w w' g lv xs us') : Duo W w' b g ts us' ∧ Keep w w' := by
  obtain ⟨lv', xs', r', ho, hf⟩ := s
  refine ⟨⟨m, nv, ads, lv', xs', h.only ho r'.below fun k hk hs => clash h r p hk (hs.elim Or.inl fun e => .inr (.inl e)), r', fun a ha x hx k h1 h2 => ?_⟩, fun k l hl => hl.only ho fun hs => ?_⟩
  rotate_left
  · rcases r.ty (show RefS g lv xs k from hs.elim Or.inl fun e => .inr (.inl e)) with hp | hp | hp | ⟨hp, _⟩ <;> exact absurd (hp.one (.of hl)) (by decide)
  rcases hf x hx k h2 with ⟨y, hy, h3⟩ | h3
  · exact p a ha y hy k h1 h3
  · obtain ⟨_, _, hT⟩ := h.at ha
    have := hT.foot_lt h1
    omega

theorem duo_open {W w : World} {b g : Nat} {ts us : List Tn} (name : ByteArray) (h : Duo W w b g ts us) (hc : Cap ts) :
    Calls Try.prog 13 #[.pointer (some ⟨b, 0, none⟩), .string name] w fun e w' => e = .returned (.int .i64 (openF ts name).1) ∧ Duo W w' b g (openF ts name).2 us ∧ Keep w w' := by
  obtain ⟨m, nv, ads, lv, xs, h1, h2, h3⟩ := h
  exact (open_step W w b m nv ts ads name h1 hc).mono fun e w' ⟨he, hs⟩ => ⟨he, duo_step h1 h2 h3 hs⟩
theorem duo_join {W w : World} {b g : Nat} {ts us : List Tn} (name role who : ByteArray) (h : Duo W w b g ts us) (hc : Cap ts) :
    Calls Try.prog 16 #[.pointer (some ⟨b, 0, none⟩), .string name, .string role, .string who] w fun e w' => e = .returned (.int .i64 (joinF ts name role who).1) ∧ Duo W w' b g (joinF ts name role who).2 us ∧ Keep w w' := by
  obtain ⟨m, nv, ads, lv, xs, h1, h2, h3⟩ := h
  exact (join_step W w b m nv ts ads name role who h1 hc).mono fun e w' ⟨he, hs⟩ => ⟨he, duo_step h1 h2 h3 hs⟩
theorem duo_leave {W w : World} {b g : Nat} {ts us : List Tn} (name role who : ByteArray) (h : Duo W w b g ts us) (hc : Cap ts) :
    Calls Try.prog 22 #[.pointer (some ⟨b, 0, none⟩), .string name, .string role, .string who] w fun e w' => e = .returned (.int .i64 (leaveT ts name role who).1) ∧ Duo W w' b g (leaveT ts name role who).2 us ∧ Keep w w' := by
  obtain ⟨m, nv, ads, lv, xs, h1, h2, h3⟩ := h
  exact (leave_step W w b m nv ts ads name role who h1 hc).mono fun e w' ⟨he, hs⟩ => ⟨he, duo_step h1 h2 h3 hs⟩
theorem duo_grant {W w : World} {b g : Nat} {ts us : List Tn} (name who key : ByteArray) (what : Int) (deny : Bool) (h : Duo W w b g ts us) (hc : Cap ts) (hsz : key.size ≤ 1000000) :
    Calls Try.prog 14 #[.pointer (some ⟨b, 0, none⟩), .string name, .agg #[.string who, .int .i64 what, .string key, .bool deny]] w fun e w' => e = .returned (.int .i64 (grantF ts name ⟨who, what, key, deny⟩).1) ∧ Duo W w' b g (grantF ts name ⟨who, what, key, deny⟩).2 us ∧ Keep w w' := by
  obtain ⟨m, nv, ads, lv, xs, h1, h2, h3⟩ := h
  exact (grant_step W w b m nv ts ads name who key what deny h1 hc (by omega)).mono fun e w' ⟨he, hs⟩ => ⟨he, duo_step h1 h2 h3 hs⟩
theorem duo_revoke {W w : World} {b g : Nat} {ts us : List Tn} (name who key : ByteArray) (what : Int) (deny : Bool) (h : Duo W w b g ts us) (hc : Cap ts) (hsz : key.size ≤ 1000000) :
    Calls Try.prog 21 #[.pointer (some ⟨b, 0, none⟩), .string name, .agg #[.string who, .int .i64 what, .string key, .bool deny]] w fun e w' => e = .returned (.int .i64 (revokeT ts name ⟨who, what, key, deny⟩).1) ∧ Duo W w' b g (revokeT ts name ⟨who, what, key, deny⟩).2 us ∧ Keep w w' := by
  obtain ⟨m, nv, ads, lv, xs, h1, h2, h3⟩ := h
  exact (revoke_step W w b m nv ts ads name who key what deny h1 hc (by omega)).mono fun e w' ⟨he, hs⟩ => ⟨he, duo_step h1 h2 h3 hs⟩

theorem duo_refopen {W w : World} {b g : Nat} {ts us : List Tn} (name : ByteArray) (h : Duo W w b g ts us) (hc : Cap us) :
    Calls Try.prog 58 #[.pointer (some ⟨g, 0, none⟩), .string name] w fun e w' => e = .returned (.int .i64 (openF us name).1) ∧ Duo W w' b g ts (openF us name).2 ∧ Keep w w' := by
  obtain ⟨m, nv, ads, lv, xs, h1, h2, h3⟩ := h
  exact (refopen_step W w g lv xs us name h2 (by have := hc.len; omega)).mono fun e w' ⟨he, hs⟩ => ⟨he, duo_rstep h1 h2 h3 hs⟩
theorem duo_refjoin {W w : World} {b g : Nat} {ts us : List Tn} (name role who : ByteArray) (h : Duo W w b g ts us) (hc : Cap us) :
    Calls Try.prog 59 #[.pointer (some ⟨g, 0, none⟩), .string name, .string role, .string who] w fun e w' => e = .returned (.int .i64 (joinF us name role who).1) ∧ Duo W w' b g ts (joinF us name role who).2 ∧ Keep w w' := by
  obtain ⟨m, nv, ads, lv, xs, h1, h2, h3⟩ := h
  exact (refjoin_step W w g lv xs us name role who h2 hc).mono fun e w' ⟨he, hs⟩ => ⟨he, duo_rstep h1 h2 h3 hs⟩
theorem duo_refleave {W w : World} {b g : Nat} {ts us : List Tn} (name role who : ByteArray) (h : Duo W w b g ts us) (hc : Cap us) :
    Calls Try.prog 60 #[.pointer (some ⟨g, 0, none⟩), .string name, .string role, .string who] w fun e w' => e = .returned (.int .i64 (leaveT us name role who).1) ∧ Duo W w' b g ts (leaveT us name role who).2 ∧ Keep w w' := by
  obtain ⟨m, nv, ads, lv, xs, h1, h2, h3⟩ := h
  exact (refleave_step W w g lv xs us name role who h2 hc).mono fun e w' ⟨he, hs⟩ => ⟨he, duo_rstep h1 h2 h3 hs⟩
theorem duo_refgrant {W w : World} {b g : Nat} {ts us : List Tn} (name who key : ByteArray) (what : Int) (deny : Bool) (h : Duo W w b g ts us) (hc : Cap us) (hsz : key.size ≤ 1000000) :
    Calls Try.prog 61 #[.pointer (some ⟨g, 0, none⟩), .string name, .agg #[.string who, .int .i64 what, .string key, .bool deny]] w fun e w' => e = .returned (.int .i64 (grantF us name ⟨who, what, key, deny⟩).1) ∧ Duo W w' b g ts (grantF us name ⟨who, what, key, deny⟩).2 ∧ Keep w w' := by
  obtain ⟨m, nv, ads, lv, xs, h1, h2, h3⟩ := h
  exact (refgrant_step W w g lv xs us name who key what deny h2 hc hsz).mono fun e w' ⟨he, hs⟩ => ⟨he, duo_rstep h1 h2 h3 hs⟩
theorem duo_refrevoke {W w : World} {b g : Nat} {ts us : List Tn} (name who key : ByteArray) (what : Int) (deny : Bool) (h : Duo W w b g ts us) (hc : Cap us) (hnd : ∀ t ∈ us, t.rules.Nodup) (hsz : key.size ≤ 1000000) :
    Calls Try.prog 62 #[.pointer (some ⟨g, 0, none⟩), .string name, .agg #[.string who, .int .i64 what, .string key, .bool deny]] w fun e w' => e = .returned (.int .i64 (revokeT us name ⟨who, what, key, deny⟩).1) ∧ Duo W w' b g ts (revokeT us name ⟨who, what, key, deny⟩).2 ∧ Keep w w' := by
  obtain ⟨m, nv, ads, lv, xs, h1, h2, h3⟩ := h
  exact (refrevoke_step W w g lv xs us name who key what deny h2 hc hnd hsz).mono fun e w' ⟨he, hs⟩ => ⟨he, duo_rstep h1 h2 h3 hs⟩

end Go.Proofs.Ytglcingpolpkdaa
