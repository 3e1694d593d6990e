/- A database as plain data: messages with signals, tables with rows, stations; what it is that cells read as one. Plain. No condition. -/
import Derived.Test.YtdibfkcddcjiiaaCells
namespace Go.Bus.dbK
open Go.RowKit Go.Bus Go.Bus.cellK
set_option linter.unusedVariables false
structure Sig where
  line : Int
  col : Int
  name : ByteArray
  role : Int
  branch : Int
  start : Int
  size : Int
  mot : Bool
  sgn : Bool
  sn : Int
  sd : Int
  on : Int
  od : Int
  mn : Int
  md : Int
  xn : Int
  xd : Int
  unit : ByteArray
  to : List ByteArray
def sigCells (s : Sig) (v : Value) : List Value := [.int .i64 s.line, .int .i64 s.col, .string s.name, .int .i64 s.role, .int .u64 s.branch, .int .i64 s.start, .int .i64 s.size, .bool s.mot, .bool s.sgn, .int .i64 s.sn, .int .i64 s.sd, .int .i64 s.on, .int .i64 s.od, .int .i64 s.mn, .int .i64 s.md, .int .i64 s.xn, .int .i64 s.xd, .string s.unit, v]
def sigE : Rel Sig := fun w F cs s => ∃ v, cs = sigCells s v ∧ SlK 1 strE w F v s.to
structure Msg where
  line : Int
  col : Int
  id : Int
  wide : Bool
  name : ByteArray
  size : Int
  sender : ByteArray
  sigs : List Sig
def msgCells (m : Msg) (v : Value) : List Value := [.int .i64 m.line, .int .i64 m.col, .int .u32 m.id, .bool m.wide, .string m.name, .int .i64 m.size, .string m.sender, v]
def msgE : Rel Msg := fun w F cs m => ∃ v, cs = msgCells m v ∧ SlK 19 sigE w F v m.sigs
structure RowD where
  val : Int
  text : ByteArray
def rowCells (r : RowD) : List Value := [.int .i64 r.val, .string r.text]
def rowE : Rel RowD := fun _ _ cs r => cs = rowCells r
structure Tab where
  line : Int
  col : Int
  id : Int
  wide : Bool
  signal : ByteArray
  rows : List RowD
def tabCells (t : Tab) (v : Value) : List Value := [.int .i64 t.line, .int .i64 t.col, .int .u32 t.id, .bool t.wide, .string t.signal, v]
def tabE : Rel Tab := fun w F cs t => ∃ v, cs = tabCells t v ∧ SlK 2 rowE w F v t.rows
structure Sta where
  line : Int
  col : Int
  names : List ByteArray
def staCells (s : Sta) (v : Value) : List Value := [.int .i64 s.line, .int .i64 s.col, v]
def staE : Rel Sta := fun w F cs s => ∃ v, cs = staCells s v ∧ SlK 1 strE w F v s.names
structure Ver where
  line : Int
  col : Int
  text : ByteArray
def verCells (s : Ver) : List Value := [.int .i64 s.line, .int .i64 s.col, .string s.text]
structure Db where
  hasV : Bool
  ver : Ver
  sta : Sta
  msgs : List Msg
  tabs : List Tab
def dbCells (d : Db) (sv mv tv : Value) : List Value := [.bool d.hasV, .int .i64 d.ver.line, .int .i64 d.ver.col, .string d.ver.text, .int .i64 d.sta.line, .int .i64 d.sta.col, sv, mv, tv]
def dbE : Rel Db := fun w F cs d => ∃ sv mv tv, cs = dbCells d sv mv tv ∧ SlK 1 strE w F sv d.sta.names ∧ SlK 8 msgE w F mv d.msgs ∧ SlK 6 tabE w F tv d.tabs
theorem sigE_mono : Mono sigE := by
  rintro w w' F F' cs x hF hk ⟨v, rfl, h⟩
  exact ⟨v, rfl, h.keep strE_mono hF hk⟩
theorem msgE_mono : Mono msgE := by
  rintro w w' F F' cs x hF hk ⟨v, rfl, h⟩
  exact ⟨v, rfl, h.keep sigE_mono hF hk⟩
theorem rowE_mono : Mono rowE := fun _ _ _ _ _ _ _ _ h => h
theorem tabE_mono : Mono tabE := by
  rintro w w' F F' cs x hF hk ⟨v, rfl, h⟩
  exact ⟨v, rfl, h.keep rowE_mono hF hk⟩
theorem staE_mono : Mono staE := by
  rintro w w' F F' cs x hF hk ⟨v, rfl, h⟩
  exact ⟨v, rfl, h.keep strE_mono hF hk⟩
theorem dbE_mono : Mono dbE := by
  rintro w w' F F' cs x hF hk ⟨sv, mv, tv, rfl, h1, h2, h3⟩
  exact ⟨sv, mv, tv, rfl, h1.keep strE_mono hF hk, h2.keep msgE_mono hF hk, h3.keep tabE_mono hF hk⟩
theorem sigE_one : One sigE := by
  rintro w F cs x ⟨v, rfl, xs, ⟨A, cap, rfl, _⟩, _⟩ u hu
  simp only [sigCells, List.mem_cons, List.not_mem_nil, or_false] at hu
  rcases hu with rfl | rfl | rfl | rfl | rfl | rfl | rfl | rfl | rfl | rfl | rfl | rfl | rfl | rfl | rfl | rfl | rfl | rfl | rfl <;> rfl
theorem rowE_one : One rowE := by
  rintro w F cs x rfl u hu
  simp only [rowCells, List.mem_cons, List.not_mem_nil, or_false] at hu
  rcases hu with rfl | rfl <;> rfl
theorem msgE_one : One msgE := by
  rintro w F cs x ⟨v, rfl, xs, ⟨A, cap, rfl, _⟩, _⟩ u hu
  simp only [msgCells, List.mem_cons, List.not_mem_nil, or_false] at hu
  rcases hu with rfl | rfl | rfl | rfl | rfl | rfl | rfl | rfl <;> rfl
theorem tabE_one : One tabE := by
  rintro w F cs x ⟨v, rfl, xs, ⟨A, cap, rfl, _⟩, _⟩ u hu
  simp only [tabCells, List.mem_cons, List.not_mem_nil, or_false] at hu
  rcases hu with rfl | rfl | rfl | rfl | rfl | rfl <;> rfl
/-! The same, all lists in memory of the call's own; S: a text's type, G: a signal's, W: a row's. -/
def sigO (S : TypeId) : Rel Sig := fun w F cs s => ∃ v, cs = sigCells s v ∧ OwD 1 strE w F 0 S v s.to
def msgO (S G : TypeId) : Rel Msg := fun w F cs m => ∃ v, cs = msgCells m v ∧ OwD 19 (sigO S) w F 0 G v m.sigs
def tabO (W : TypeId) : Rel Tab := fun w F cs t => ∃ v, cs = tabCells t v ∧ OwD 2 rowE w F 0 W v t.rows
def staO (S : TypeId) : Rel Sta := fun w F cs s => ∃ v, cs = staCells s v ∧ OwD 1 strE w F 0 S v s.names
section
variable {S G W : TypeId} {w : World} {F : Foot} {cs : List Value}
theorem sigO_mono : Mono (sigO S) := by
  rintro w w' F F' cs x hF hk ⟨v, rfl, h⟩
  exact ⟨v, rfl, h.keep strE_mono hF hk⟩
theorem msgO_mono : Mono (msgO S G) := by
  rintro w w' F F' cs x hF hk ⟨v, rfl, h⟩
  exact ⟨v, rfl, h.keep sigO_mono hF hk⟩
theorem tabO_mono : Mono (tabO W) := by
  rintro w w' F F' cs x hF hk ⟨v, rfl, h⟩
  exact ⟨v, rfl, h.keep rowE_mono hF hk⟩
theorem staO_mono : Mono (staO S) := by
  rintro w w' F F' cs x hF hk ⟨v, rfl, h⟩
  exact ⟨v, rfl, h.keep strE_mono hF hk⟩
theorem sigO_sigE {s : Sig} (h : sigO S w F cs s) : sigE w F cs s := by
  obtain ⟨v, rfl, h⟩ := h
  exact ⟨v, rfl, h.sl strE_mono⟩
theorem msgO_msgE {m : Msg} (h : msgO S G w F cs m) : msgE w F cs m := by
  obtain ⟨v, rfl, h⟩ := h
  exact ⟨v, rfl, (h.sl sigO_mono).weak fun _ _ => sigO_sigE⟩
theorem tabO_tabE {t : Tab} (h : tabO W w F cs t) : tabE w F cs t := by
  obtain ⟨v, rfl, h⟩ := h
  exact ⟨v, rfl, h.sl rowE_mono⟩
theorem staO_staE {s : Sta} (h : staO S w F cs s) : staE w F cs s := by
  obtain ⟨v, rfl, h⟩ := h
  exact ⟨v, rfl, h.sl strE_mono⟩
end
/-! What integers and lengths are within, of what came in. -/
abbrev I64 (n : Int) : Prop := -9223372036854775808 ≤ n ∧ n ≤ 9223372036854775807
abbrev Str (s : ByteArray) : Prop := s.size ≤ 140737488351232
structure SigOk (s : Sig) : Prop where
  line : I64 s.line
  col : I64 s.col
  name : Str s.name
  role : I64 s.role
  branch : 0 ≤ s.branch ∧ s.branch < 18446744073709551616
  start : I64 s.start
  size : I64 s.size
  sn : I64 s.sn
  sd : I64 s.sd
  on : I64 s.on
  od : I64 s.od
  mn : I64 s.mn
  md : I64 s.md
  xn : I64 s.xn
  xd : I64 s.xd
  unit : Str s.unit
  to : s.to.length * 16 ≤ 140737488351232
structure MsgOk (m : Msg) : Prop where
  line : I64 m.line
  col : I64 m.col
  id : 0 ≤ m.id ∧ m.id < 4294967296
  name : Str m.name
  size : I64 m.size
  sender : Str m.sender
  len : m.sigs.length * 176 ≤ 140737488351232
  sigs : ∀ s ∈ m.sigs, SigOk s
structure RowOk (r : RowD) : Prop where
  val : I64 r.val
  text : Str r.text
structure TabOk (t : Tab) : Prop where
  line : I64 t.line
  col : I64 t.col
  id : 0 ≤ t.id ∧ t.id < 4294967296
  signal : Str t.signal
  len : t.rows.length * 24 ≤ 140737488351232
  rows : ∀ r ∈ t.rows, RowOk r
structure DbOk (d : Db) : Prop where
  names : d.sta.names.length * 16 ≤ 140737488351232
  mlen : d.msgs.length * 88 ≤ 140737488351232
  tlen : d.tabs.length * 64 ≤ 140737488351232
  msgs : ∀ m ∈ d.msgs, MsgOk m
  tabs : ∀ t ∈ d.tabs, TabOk t
end Go.Bus.dbK
