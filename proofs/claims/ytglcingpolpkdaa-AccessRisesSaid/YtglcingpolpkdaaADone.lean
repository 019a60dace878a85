/- done: a call of a book that opens, joins or grants; filled: a book behind calls. -/
import Derived.Test.YtglcingpolpkdaaABookOps
namespace Go.Proofs.Ytglcingpolpkdaa
open Go.RowKit

/-- A call. -/
structure Ac where
  kind : Int
  tenant : ByteArray
  role : ByteArray
  who : ByteArray
  r : Rl
  what : Int
  key : ByteArray
def Ac.cells (a : Ac) : List Value := [.int .u8 a.kind, .string a.tenant, .string a.role, .string a.who, .string a.r.who, .int .i64 a.r.what, .string a.r.key, .bool a.r.deny, .int .i64 a.what, .string a.key]
/-- What a call that opens, joins or grants makes of a book. -/
def doT (ts : List Tn) (a : Ac) : List Tn :=
  if a.kind = 0 then (openT ts a.tenant).2 else if a.kind = 1 then (joinT ts a.tenant a.role a.who).2 else if a.kind = 3 then (grantT ts a.tenant a.r).2 else ts
def adds (a : Ac) : Prop := a.kind = 0 ∨ a.kind = 1 ∨ a.kind = 3

set_option maxRecDepth 100000 in
set_option maxHeartbeats 1000000 in
theorem done_open (W w : World) (b : Nat) (ts : List Tn) (tenant role who rwho rkey key : ByteArray) (rwhat what : Int) (deny : Bool) (h : BookIs W w b ts) (hs : Small 63 ts) (_ : rkey.size ≤ 9223372036854775807) :
    Calls Try.prog 51 #[.pointer (some ⟨b, 0, none⟩), .agg #[.int .u8 0, .string tenant, .string role, .string who, .string rwho, .int .i64 rwhat, .string rkey, .bool deny, .int .i64 what, .string key]] w fun e w' => (∃ v, e = .returned v) ∧ BookIs W w' b (doT ts ⟨0, tenant, role, who, ⟨rwho, rwhat, rkey, deny⟩, what, key⟩) := by
  have hBA : Below w.heap.size w (w.alloc (.cells #[.int .u8 0, .string tenant, .string role, .string who, .string rwho, .int .i64 rwhat, .string rkey, .bool deny, .int .i64 what, .string key] 38)) := (Below.refl _ _).alloc (Nat.le_refl _) _
  have hC := Whole.new w 38 #[.int .u8 0, .string tenant, .string role, .string who, .string rwho, .int .i64 rwhat, .string rkey, .bool deny, .int .i64 what, .string key]
  have c0 := hC.cell 0
  have c1 := hC.cell 1
  have c2 := hC.cell 2
  have c3 := hC.cell 3
  have c4 := hC.cell 4
  have c5 := hC.cell 5
  have c6 := hC.cell 6
  have c7 := hC.cell 7
  have HC := Lib.hid (open_book W (w.alloc (.cells #[.int .u8 0, .string tenant, .string role, .string who, .string rwho, .int .i64 rwhat, .string rkey, .bool deny, .int .i64 what, .string key] 38)) b ts tenant (h.on hBA) hs)
  clear hC h hs hBA
  go_enter Try.func51, Try.ntmps51
  go_wp2_with (first
    | (refine wpList_box_cells (by rfl) 38 _ (by rfl) #[.int .u8 0, .string tenant, .string role, .string who, .string rwho, .int .i64 rwhat, .string rkey, .bool deny, .int .i64 what, .string key] (by rfl) ?_)
    | (go_at_call 13; refine HC.out.mono ?_; rintro e w1 ⟨rfl, h1⟩))
  go_ret
  exact ⟨⟨_, rfl⟩, h1⟩

set_option maxRecDepth 100000 in
set_option maxHeartbeats 1000000 in
theorem done_join (W w : World) (b : Nat) (ts : List Tn) (tenant role who rwho rkey key : ByteArray) (rwhat what : Int) (deny : Bool) (h : BookIs W w b ts) (hs : Small 63 ts) (_ : rkey.size ≤ 9223372036854775807) :
    Calls Try.prog 51 #[.pointer (some ⟨b, 0, none⟩), .agg #[.int .u8 1, .string tenant, .string role, .string who, .string rwho, .int .i64 rwhat, .string rkey, .bool deny, .int .i64 what, .string key]] w fun e w' => (∃ v, e = .returned v) ∧ BookIs W w' b (doT ts ⟨1, tenant, role, who, ⟨rwho, rwhat, rkey, deny⟩, what, key⟩) := by
  have hBA : Below w.heap.size w (w.alloc (.cells #[.int .u8 1, .string tenant, .string role, .string who, .string rwho, .int .i64 rwhat, .string rkey, .bool deny, .int .i64 what, .string key] 38)) := (Below.refl _ _).alloc (Nat.le_refl _) _
  have hC := Whole.new w 38 #[.int .u8 1, .string tenant, .string role, .string who, .string rwho, .int .i64 rwhat, .string rkey, .bool deny, .int .i64 what, .string key]
  have c0 := hC.cell 0
  have c1 := hC.cell 1
  have c2 := hC.cell 2
  have c3 := hC.cell 3
  have c4 := hC.cell 4
  have c5 := hC.cell 5
  have c6 := hC.cell 6
  have c7 := hC.cell 7
  have HC := Lib.hid (join_book W (w.alloc (.cells #[.int .u8 1, .string tenant, .string role, .string who, .string rwho, .int .i64 rwhat, .string rkey, .bool deny, .int .i64 what, .string key] 38)) b ts tenant role who (h.on hBA) hs)
  clear hC h hs hBA
  go_enter Try.func51, Try.ntmps51
  go_wp2_with (first
    | (refine wpList_box_cells (by rfl) 38 _ (by rfl) #[.int .u8 1, .string tenant, .string role, .string who, .string rwho, .int .i64 rwhat, .string rkey, .bool deny, .int .i64 what, .string key] (by rfl) ?_)
    | (go_at_call 16; refine HC.out.mono ?_; rintro e w1 ⟨rfl, h1⟩))
  go_ret
  exact ⟨⟨_, rfl⟩, h1⟩

set_option maxRecDepth 100000 in
set_option maxHeartbeats 1000000 in
theorem done_grant (W w : World) (b : Nat) (ts : List Tn) (tenant role who rwho rkey key : ByteArray) (rwhat what : Int) (deny : Bool) (h : BookIs W w b ts) (hs : Small 63 ts) (hsz : rkey.size ≤ 9223372036854775807) :
    Calls Try.prog 51 #[.pointer (some ⟨b, 0, none⟩), .agg #[.int .u8 3, .string tenant, .string role, .string who, .string rwho, .int .i64 rwhat, .string rkey, .bool deny, .int .i64 what, .string key]] w fun e w' => (∃ v, e = .returned v) ∧ BookIs W w' b (doT ts ⟨3, tenant, role, who, ⟨rwho, rwhat, rkey, deny⟩, what, key⟩) := by
  have hBA : Below w.heap.size w (w.alloc (.cells #[.int .u8 3, .string tenant, .string role, .string who, .string rwho, .int .i64 rwhat, .string rkey, .bool deny, .int .i64 what, .string key] 38)) := (Below.refl _ _).alloc (Nat.le_refl _) _
  have hC := Whole.new w 38 #[.int .u8 3, .string tenant, .string role, .string who, .string rwho, .int .i64 rwhat, .string rkey, .bool deny, .int .i64 what, .string key]
  have c0 := hC.cell 0
  have c1 := hC.cell 1
  have c2 := hC.cell 2
  have c3 := hC.cell 3
  have c4 := hC.cell 4
  have c5 := hC.cell 5
  have c6 := hC.cell 6
  have c7 := hC.cell 7
  have HC := Lib.hid (grant_book W (w.alloc (.cells #[.int .u8 3, .string tenant, .string role, .string who, .string rwho, .int .i64 rwhat, .string rkey, .bool deny, .int .i64 what, .string key] 38)) b ts tenant rwho rkey rwhat deny (h.on hBA) hs hsz)
  clear hC h hs hsz hBA
  go_enter Try.func51, Try.ntmps51
  go_wp2_with (first
    | (refine wpList_box_cells (by rfl) 38 _ (by rfl) #[.int .u8 3, .string tenant, .string role, .string who, .string rwho, .int .i64 rwhat, .string rkey, .bool deny, .int .i64 what, .string key] (by rfl) ?_)
    | (go_at_call 14; refine HC.out.mono ?_; rintro e w1 ⟨rfl, h1⟩))
  go_ret
  exact ⟨⟨_, rfl⟩, h1⟩

theorem done_calls (W w : World) (b : Nat) (ts : List Tn) (a : Ac) (h : BookIs W w b ts) (hs : Small 63 ts) (ha : adds a) (hsz : a.r.key.size ≤ 9223372036854775807) :
    Calls Try.prog 51 #[.pointer (some ⟨b, 0, none⟩), .agg a.cells.toArray] w fun e w' => (∃ v, e = .returned v) ∧ BookIs W w' b (doT ts a) := by
  obtain ⟨kind, tenant, role, who, ⟨rwho, rwhat, rkey, deny⟩, what, key⟩ := a
  rcases ha with h0 | h0 | h0
  · have h0 : kind = 0 := h0
    subst h0
    exact done_open W w b ts tenant role who rwho rkey key rwhat what deny h hs hsz
  · have h0 : kind = 1 := h0
    subst h0
    exact done_join W w b ts tenant role who rwho rkey key rwhat what deny h hs hsz
  · have h0 : kind = 3 := h0
    subst h0
    exact done_grant W w b ts tenant role who rwho rkey key rwhat what deny h hs hsz

end Go.Proofs.Ytglcingpolpkdaa
