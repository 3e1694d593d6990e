/- node.kind and node.Kind: what a part is. No condition. -/
import Derived.Test.YtdibfkcddcjiiaaNodeCopy
import Derived.Test.YtdibfkcddcjiiaaAssert
namespace Go.Proofs.Ytdibfkcddcjiiaa
open Go.RowKit Go.Bus Go.Bus.cellK Go.Bus.dbK
set_option linter.unusedVariables false
namespace nodeK
inductive Nd where
  | ver (v : Ver)
  | sta (s : Sta)
  | msg (m : Msg)
  | tab (t : Tab)
def ndV (c : List Value) : Nd → Value
  | .ver _ => .iface 25 (.agg c.toArray)
  | .sta _ => .iface 28 (.agg c.toArray)
  | .msg _ => .iface 62 (.agg c.toArray)
  | .tab _ => .iface 79 (.agg c.toArray)
def ndR (w : World) (F : Foot) (c : List Value) : Nd → Prop
  | .ver v => c = verCells v
  | .sta s => staE w F c s
  | .msg m => msgE w F c m
  | .tab t => tabE w F c t
def ndQ (w : World) (F : Foot) (c : List Value) : Nd → Prop
  | .ver v => c = verCells v
  | .sta s => staO 9 w F c s
  | .msg m => msgO 9 119 w F c m
  | .tab t => tabO 122 w F c t
def ndE : Rel Nd := fun w F cs x => ∃ c, cs = [ndV c x] ∧ ndR w F c x
def ndO : Rel Nd := fun w F cs x => ∃ c, cs = [ndV c x] ∧ ndQ w F c x
theorem ndE_mono : Mono ndE := by
  rintro w w' F F' cs x hF hk ⟨c, rfl, h⟩
  refine ⟨c, rfl, ?_⟩
  cases x with
  | ver v => exact h
  | sta s => exact staE_mono _ _ _ _ _ _ hF hk h
  | msg s => exact msgE_mono _ _ _ _ _ _ hF hk h
  | tab s => exact tabE_mono _ _ _ _ _ _ hF hk h
theorem ndO_mono : Mono ndO := by
  rintro w w' F F' cs x hF hk ⟨c, rfl, h⟩
  refine ⟨c, rfl, ?_⟩
  cases x with
  | ver v => exact h
  | sta s => exact staO_mono _ _ _ _ _ _ hF hk h
  | msg s => exact msgO_mono _ _ _ _ _ _ hF hk h
  | tab s => exact tabO_mono _ _ _ _ _ _ hF hk h
theorem ndO_ndE {w : World} {F : Foot} {cs : List Value} {x : Nd} (h : ndO w F cs x) : ndE w F cs x := by
  obtain ⟨c, rfl, h⟩ := h
  refine ⟨c, rfl, ?_⟩
  cases x with
  | ver v => exact h
  | sta s => exact staO_staE h
  | msg s => exact msgO_msgE h
  | tab s => exact tabO_tabE h
def rank : Nd → Int
  | .ver _ => 1
  | .sta _ => 2
  | .msg _ => 3
  | .tab _ => 4
def kname : Nd → ByteArray
  | .ver _ => ⟨#[118, 101, 114, 115, 105, 111, 110]⟩
  | .sta _ => ⟨#[115, 116, 97, 116, 105, 111, 110, 115]⟩
  | .msg _ => ⟨#[109, 101, 115, 115, 97, 103, 101]⟩
  | .tab _ => ⟨#[116, 97, 98, 108, 101]⟩
def verZ : Array Value := #[.int .i64 0, .int .i64 0, .string ⟨#[]⟩]
def staZ : Array Value := #[.int .i64 0, .int .i64 0, .slice none 0 0]
def tabZ : Array Value := #[.int .i64 0, .int .i64 0, .int .u32 0, .bool false, .string ⟨#[]⟩, .slice none 0 0]
open nodeC
theorem as_ver_ver (v : Value) (w : World) : (Instr.typeAssert (.iface 25 v) 70 25 true).run Try.prog w = .ok (.tuple #[v, .bool true]) w := assert_hit Try.underlying25 v w
theorem as_ver_sta (v : Value) (w : World) : (Instr.typeAssert (.iface 25 v) 70 28 true).run Try.prog w = .ok (.tuple #[.agg staZ, .bool false]) w := assert_miss Try.underlying28 (by kernel_rfl) (by decide) v w
theorem as_ver_msg (v : Value) (w : World) : (Instr.typeAssert (.iface 25 v) 70 62 true).run Try.prog w = .ok (.tuple #[.agg msgZ, .bool false]) w := assert_miss Try.underlying62 (by kernel_rfl) (by decide) v w
theorem as_ver_tab (v : Value) (w : World) : (Instr.typeAssert (.iface 25 v) 70 79 true).run Try.prog w = .ok (.tuple #[.agg tabZ, .bool false]) w := assert_miss Try.underlying79 (by kernel_rfl) (by decide) v w
theorem as_sta_ver (v : Value) (w : World) : (Instr.typeAssert (.iface 28 v) 70 25 true).run Try.prog w = .ok (.tuple #[.agg verZ, .bool false]) w := assert_miss Try.underlying25 (by kernel_rfl) (by decide) v w
theorem as_sta_sta (v : Value) (w : World) : (Instr.typeAssert (.iface 28 v) 70 28 true).run Try.prog w = .ok (.tuple #[v, .bool true]) w := assert_hit Try.underlying28 v w
theorem as_sta_msg (v : Value) (w : World) : (Instr.typeAssert (.iface 28 v) 70 62 true).run Try.prog w = .ok (.tuple #[.agg msgZ, .bool false]) w := assert_miss Try.underlying62 (by kernel_rfl) (by decide) v w
theorem as_sta_tab (v : Value) (w : World) : (Instr.typeAssert (.iface 28 v) 70 79 true).run Try.prog w = .ok (.tuple #[.agg tabZ, .bool false]) w := assert_miss Try.underlying79 (by kernel_rfl) (by decide) v w
theorem as_msg_ver (v : Value) (w : World) : (Instr.typeAssert (.iface 62 v) 70 25 true).run Try.prog w = .ok (.tuple #[.agg verZ, .bool false]) w := assert_miss Try.underlying25 (by kernel_rfl) (by decide) v w
theorem as_msg_sta (v : Value) (w : World) : (Instr.typeAssert (.iface 62 v) 70 28 true).run Try.prog w = .ok (.tuple #[.agg staZ, .bool false]) w := assert_miss Try.underlying28 (by kernel_rfl) (by decide) v w
theorem as_msg_msg (v : Value) (w : World) : (Instr.typeAssert (.iface 62 v) 70 62 true).run Try.prog w = .ok (.tuple #[v, .bool true]) w := assert_hit Try.underlying62 v w
theorem as_msg_tab (v : Value) (w : World) : (Instr.typeAssert (.iface 62 v) 70 79 true).run Try.prog w = .ok (.tuple #[.agg tabZ, .bool false]) w := assert_miss Try.underlying79 (by kernel_rfl) (by decide) v w
theorem as_tab_ver (v : Value) (w : World) : (Instr.typeAssert (.iface 79 v) 70 25 true).run Try.prog w = .ok (.tuple #[.agg verZ, .bool false]) w := assert_miss Try.underlying25 (by kernel_rfl) (by decide) v w
theorem as_tab_sta (v : Value) (w : World) : (Instr.typeAssert (.iface 79 v) 70 28 true).run Try.prog w = .ok (.tuple #[.agg staZ, .bool false]) w := assert_miss Try.underlying28 (by kernel_rfl) (by decide) v w
theorem as_tab_msg (v : Value) (w : World) : (Instr.typeAssert (.iface 79 v) 70 62 true).run Try.prog w = .ok (.tuple #[.agg msgZ, .bool false]) w := assert_miss Try.underlying62 (by kernel_rfl) (by decide) v w
theorem as_tab_tab (v : Value) (w : World) : (Instr.typeAssert (.iface 79 v) 70 79 true).run Try.prog w = .ok (.tuple #[v, .bool true]) w := assert_hit Try.underlying79 v w
theorem as_nil_ver (w : World) : (Instr.typeAssert .nilIface 70 25 true).run Try.prog w = .ok (.tuple #[.agg verZ, .bool false]) w := assert_nil Try.underlying25 (by kernel_rfl) w
theorem as_nil_sta (w : World) : (Instr.typeAssert .nilIface 70 28 true).run Try.prog w = .ok (.tuple #[.agg staZ, .bool false]) w := assert_nil Try.underlying28 (by kernel_rfl) w
theorem as_nil_msg (w : World) : (Instr.typeAssert .nilIface 70 62 true).run Try.prog w = .ok (.tuple #[.agg msgZ, .bool false]) w := assert_nil Try.underlying62 (by kernel_rfl) w
theorem as_nil_tab (w : World) : (Instr.typeAssert .nilIface 70 79 true).run Try.prog w = .ok (.tuple #[.agg tabZ, .bool false]) w := assert_nil Try.underlying79 (by kernel_rfl) w
set_option maxRecDepth 100000 in
set_option maxHeartbeats 1000000 in
theorem kind_ver (x : Ver) (c : List Value) (w : World) :
    Calls Try.prog 48 #[ndV c (.ver x)] w fun e w' => e = .returned (.agg #[.int .i64 (rank (.ver x)), .string (kname (.ver x))]) ∧ Below w.heap.size w w' := by
  have hver := fun w => as_ver_ver (.agg c.toArray) w
  have hsta := fun w => as_ver_sta (.agg c.toArray) w
  have hmsg := fun w => as_ver_msg (.agg c.toArray) w
  have htab := fun w => as_ver_tab (.agg c.toArray) w
  simp only [ndV, rank, kname]
  go_enter Try.func48, Try.ntmps48
  go_wp2
  exact bodyPost_ret (results_block (g := w.heap.size) (T := 111) rfl rfl (Has.new w _ _) (by rfl) Try.underlying111 rfl (by kernel_rfl)) rfl ⟨rfl, (by repeat' (first | (with_reducible assumption) | (with_reducible refine Below.setCell ?_ ?_ _) | (with_reducible refine Below.alloc ?_ ?_ _) | (with_reducible refine Below.drew ?_) | (with_reducible refine below_drewN ?_ _) | (with_reducible exact Below.refl _ _) | (show _ ≤ _; (try simp); (try omega); done) | exact Below.refl _ _ | assumption))⟩
set_option maxRecDepth 100000 in
set_option maxHeartbeats 1000000 in
theorem kind_sta (x : Sta) (c : List Value) (w : World) :
    Calls Try.prog 48 #[ndV c (.sta x)] w fun e w' => e = .returned (.agg #[.int .i64 (rank (.sta x)), .string (kname (.sta x))]) ∧ Below w.heap.size w w' := by
  have hver := fun w => as_sta_ver (.agg c.toArray) w
  have hsta := fun w => as_sta_sta (.agg c.toArray) w
  have hmsg := fun w => as_sta_msg (.agg c.toArray) w
  have htab := fun w => as_sta_tab (.agg c.toArray) w
  simp only [ndV, rank, kname]
  go_enter Try.func48, Try.ntmps48
  go_wp2
  exact bodyPost_ret (results_block (g := w.heap.size) (T := 111) rfl rfl (Has.new w _ _) (by rfl) Try.underlying111 rfl (by kernel_rfl)) rfl ⟨rfl, (by repeat' (first | (with_reducible assumption) | (with_reducible refine Below.setCell ?_ ?_ _) | (with_reducible refine Below.alloc ?_ ?_ _) | (with_reducible refine Below.drew ?_) | (with_reducible refine below_drewN ?_ _) | (with_reducible exact Below.refl _ _) | (show _ ≤ _; (try simp); (try omega); done) | exact Below.refl _ _ | assumption))⟩
set_option maxRecDepth 100000 in
set_option maxHeartbeats 1000000 in
theorem kind_msg (x : Msg) (c : List Value) (w : World) :
    Calls Try.prog 48 #[ndV c (.msg x)] w fun e w' => e = .returned (.agg #[.int .i64 (rank (.msg x)), .string (kname (.msg x))]) ∧ Below w.heap.size w w' := by
  have hver := fun w => as_msg_ver (.agg c.toArray) w
  have hsta := fun w => as_msg_sta (.agg c.toArray) w
  have hmsg := fun w => as_msg_msg (.agg c.toArray) w
  have htab := fun w => as_msg_tab (.agg c.toArray) w
  simp only [ndV, rank, kname]
  go_enter Try.func48, Try.ntmps48
  go_wp2
  exact bodyPost_ret (results_block (g := w.heap.size) (T := 111) rfl rfl (Has.new w _ _) (by rfl) Try.underlying111 rfl (by kernel_rfl)) rfl ⟨rfl, (by repeat' (first | (with_reducible assumption) | (with_reducible refine Below.setCell ?_ ?_ _) | (with_reducible refine Below.alloc ?_ ?_ _) | (with_reducible refine Below.drew ?_) | (with_reducible refine below_drewN ?_ _) | (with_reducible exact Below.refl _ _) | (show _ ≤ _; (try simp); (try omega); done) | exact Below.refl _ _ | assumption))⟩
set_option maxRecDepth 100000 in
set_option maxHeartbeats 1000000 in
theorem kind_tab (x : Tab) (c : List Value) (w : World) :
    Calls Try.prog 48 #[ndV c (.tab x)] w fun e w' => e = .returned (.agg #[.int .i64 (rank (.tab x)), .string (kname (.tab x))]) ∧ Below w.heap.size w w' := by
  have hver := fun w => as_tab_ver (.agg c.toArray) w
  have hsta := fun w => as_tab_sta (.agg c.toArray) w
  have hmsg := fun w => as_tab_msg (.agg c.toArray) w
  have htab := fun w => as_tab_tab (.agg c.toArray) w
  simp only [ndV, rank, kname]
  go_enter Try.func48, Try.ntmps48
  go_wp2
  exact bodyPost_ret (results_block (g := w.heap.size) (T := 111) rfl rfl (Has.new w _ _) (by rfl) Try.underlying111 rfl (by kernel_rfl)) rfl ⟨rfl, (by repeat' (first | (with_reducible assumption) | (with_reducible refine Below.setCell ?_ ?_ _) | (with_reducible refine Below.alloc ?_ ?_ _) | (with_reducible refine Below.drew ?_) | (with_reducible refine below_drewN ?_ _) | (with_reducible exact Below.refl _ _) | (show _ ≤ _; (try simp); (try omega); done) | exact Below.refl _ _ | assumption))⟩
theorem kind_any (x : Nd) (c : List Value) (w : World) :
    Calls Try.prog 48 #[ndV c x] w fun e w' => e = .returned (.agg #[.int .i64 (rank x), .string (kname x)]) ∧ Below w.heap.size w w' := by
  cases x with
  | ver x => exact kind_ver x c w
  | sta x => exact kind_sta x c w
  | msg x => exact kind_msg x c w
  | tab x => exact kind_tab x c w
set_option maxRecDepth 100000 in
set_option maxHeartbeats 1000000 in
theorem kind_nil (w : World) :
    Calls Try.prog 48 #[.nilIface] w fun e w' => e = .returned (.agg #[.int .i64 0, .string ⟨#[]⟩]) ∧ Below w.heap.size w w' := by
  have h1 := as_nil_ver
  have h2 := as_nil_sta
  have h3 := as_nil_msg
  have h4 := as_nil_tab
  go_enter Try.func48, Try.ntmps48
  go_wp2
  exact bodyPost_ret (results_block (g := w.heap.size) (T := 111) rfl rfl (Has.new w _ _) (by rfl) Try.underlying111 rfl (by kernel_rfl)) rfl ⟨rfl, (by repeat' (first | (with_reducible assumption) | (with_reducible refine Below.setCell ?_ ?_ _) | (with_reducible refine Below.alloc ?_ ?_ _) | (with_reducible refine Below.drew ?_) | (with_reducible refine below_drewN ?_ _) | (with_reducible exact Below.refl _ _) | (show _ ≤ _; (try simp); (try omega); done) | exact Below.refl _ _ | assumption))⟩
theorem ranked_1 (r : Int) (s : ByteArray) (w : World) : (Instr.field 111 (.agg #[.int .i64 r, .string s]) 1).run Try.prog w = .ok (.string s) w := by kernel_rfl
theorem ranked_0 (r : Int) (s : ByteArray) (w : World) : (Instr.field 111 (.agg #[.int .i64 r, .string s]) 0).run Try.prog w = .ok (.int .i64 r) w := by kernel_rfl
set_option maxRecDepth 100000 in
set_option maxHeartbeats 1000000 in
theorem Kind_any (x : Nd) (c : List Value) (w : World) :
    Calls Try.prog 15 #[ndV c x] w fun e w' => e = .returned (.string (kname x)) ∧ Below w.heap.size w w' := by
  obtain ⟨u, hu⟩ : ∃ u, ndV c x = u := ⟨_, rfl⟩
  have H := Lib.hid (kind_any x c)
  rw [hu] at H ⊢
  clear hu
  have hf := ranked_1
  go_enter Try.func15, Try.ntmps15
  go_wp2_with fail
  refine (H.out _).mono ?_
  rintro e w1 ⟨rfl, hb⟩
  have HB := Lib.hid hb; clear hb
  go_wp2
  go_ret
  exact ⟨rfl, HB.out⟩
set_option maxRecDepth 100000 in
set_option maxHeartbeats 1000000 in
theorem Kind_nil (w : World) :
    Calls Try.prog 15 #[.nilIface] w fun e w' => e = .returned (.string ⟨#[]⟩) ∧ Below w.heap.size w w' := by
  have hf := ranked_1
  go_enter Try.func15, Try.ntmps15
  go_wp2_with fail
  refine (kind_nil _).mono ?_
  rintro e w1 ⟨rfl, hb⟩
  have HB := Lib.hid hb; clear hb
  go_wp2
  go_ret
  exact ⟨rfl, HB.out⟩
end nodeK
end Go.Proofs.Ytdibfkcddcjiiaa
