/- The file system as a plain state: what vfs's calls answer and make of it. No program in sight. -/
import Derived.Test.YtphbbcjmnlamaaaGreatVMap
import Derived.Lib.IndexAny
import Derived.Lib.Bytealg
namespace Go.Proofs.YtphbbcjmnlamaaaGreatV
set_option linter.unusedVariables false

structure Mt where
  mode : Int
  uid : Int
  gid : Int
  time : Int
  nano : Int
  deriving DecidableEq
structure Ino where
  kind : Int
  mt : Mt
  data : List Int
  target : ByteArray
  ents : List (ByteArray × Int)
  links : Int
  up : Int
structure Act8 where
  op : Int
  dir : Int
  name : ByteArray
  node : Int
  to : Int
  other : ByteArray
  at_ : Int
  n : Int
structure FSt where
  nodes : Int
  bytes : Int
  next : Int
  used : Int
  inodes : List (Int × Ino)
  trace : List Act8

def noName : ByteArray := ⟨#[]⟩
def isNameS (s : ByteArray) : Bool := decide (1 ≤ s.size) && decide (s.size ≤ 255) && (!(decide (s.data.toList = [46]))) && (!(decide (s.data.toList = [46, 46]))) && (!(Lib.containsAny s.data.toList [47, 0]))
def isTargetS (s : ByteArray) : Bool := decide (1 ≤ s.size) && decide (s.size ≤ 4096) && decide (Lib.indexByte s.data.toList 0 < 0)
def isMetaS (m : Mt) : Bool := decide (m.mode ≤ 4095) && decide (0 ≤ m.nano) && decide (m.nano ≤ 999999999)
/-- ErrNode where one of some numbers is of no inode. -/
def thereS (S : FSt) : List Int → Int
  | [] => 0
  | n :: l => if (aget n S.inodes).isSome then thereS S l else 100
def dirsOnly (S : FSt) : List Int → Int
  | [] => 0
  | n :: l => match aget n S.inodes with
    | some i => if i.kind = 1 then dirsOnly S l else 101
    | none => 101
def dirsS (S : FSt) (l : List Int) : Int := if thereS S l = 0 then dirsOnly S l else thereS S l
def atS (S : FSt) (dir : Int) (name : ByteArray) : Int := if dirsS S [dir] = 0 then (if isNameS name = true then 0 else 102) else dirsS S [dir]
def entsS (S : FSt) (dir : Int) : List (ByteArray × Int) := match aget dir S.inodes with | some i => i.ents | none => []
def lookupS (S : FSt) (dir : Int) (name : ByteArray) : Int × Int :=
  if atS S dir name = 0 then (match aget name (entsS S dir) with | some n => (n, 0) | none => (0, 103)) else (0, atS S dir name)
def upS (S : FSt) (dir : Int) : Int × Int := if dirsS S [dir] = 0 then (match aget dir S.inodes with | some i => (i.up, 0) | none => (0, 100)) else (0, dirsS S [dir])
structure StatS where
  node : Int
  kind : Int
  mt : Mt
  links : Int
  size : Int
def zeroMt : Mt := ⟨0, 0, 0, 0, 0⟩
def statS (S : FSt) (node : Int) : StatS × Int := match aget node S.inodes with
  | some i => (⟨node, i.kind, i.mt, i.links, i.data.length + i.ents.length + i.target.size⟩, 0)
  | none => (⟨0, 0, zeroMt, 0, 0⟩, 100)
def doneS (S : FSt) (a : Act8) : FSt := { S with trace := S.trace ++ [a] }
def setIno (S : FSt) (n : Int) (i : Ino) : FSt := { S with inodes := aset n i S.inodes }
def linkEnt (S : FSt) (dir : Int) (name : ByteArray) (n : Int) : FSt := match aget dir S.inodes with
  | some d => setIno S dir { d with ents := aset name n d.ents }
  | none => S
def makesS (S : FSt) (op dir : Int) (name : ByteArray) (i : Ino) : Int × Int × FSt :=
  if isMetaS i.mt = true then
    if (aget name (entsS S dir)).isSome then (0, 104, S)
    else if (S.inodes.length : Int) ≥ S.nodes ∨ S.next ≥ 1099511627776 then (0, 105, S)
    else (S.next, 0, doneS (linkEnt (setIno { S with next := S.next + 1 } S.next { i with links := 1, up := dir }) dir name S.next) ⟨op, dir, name, S.next, 0, noName, 0, 0⟩)
  else (0, 1, S)
def mkdirS (S : FSt) (dir : Int) (name : ByteArray) (m : Mt) : Int × Int × FSt := if atS S dir name = 0 then makesS S 1 dir name ⟨1, m, [], noName, [], 0, 0⟩ else (0, atS S dir name, S)
def createS (S : FSt) (dir : Int) (name : ByteArray) (m : Mt) : Int × Int × FSt := if atS S dir name = 0 then makesS S 2 dir name ⟨2, m, [], noName, [], 0, 0⟩ else (0, atS S dir name, S)
def symlinkS (S : FSt) (dir : Int) (name target : ByteArray) (m : Mt) : Int × Int × FSt :=
  if atS S dir name = 0 then (if isTargetS target = true then makesS S 3 dir name ⟨3, m, [], target, [], 0, 0⟩ else (0, 107, S)) else (0, atS S dir name, S)
def linkS (S : FSt) (dir : Int) (name : ByteArray) (node : Int) : Int × FSt :=
  if thereS S [dir, node] = 0 then
    if atS S dir name = 0 then
      if (aget name (entsS S dir)).isSome then (104, S)
      else match aget node S.inodes with
        | some i => if i.kind = 1 then (106, S) else
            (0, doneS (setIno (linkEnt S dir name node) node { i with links := i.links + 1 }) ⟨4, dir, name, node, 0, noName, 0, 0⟩)
        | none => (100, S)
    else (atS S dir name, S)
  else (thereS S [dir, node], S)
def readS (S : FSt) (node at_ n : Int) : List Int × Int := match aget node S.inodes with
  | none => ([], 100)
  | some i => if at_ < 0 ∨ n < 0 then ([], 1) else if i.kind ≠ 2 then ([], 106) else if at_ ≥ i.data.length then ([], 0)
      else ((i.data.drop at_.toNat).take (min n ((i.data.length : Int) - at_)).toNat, 0)
/-- A file's bytes at another length. -/
def resized (data : List Int) (size : Nat) : List Int := data.take size ++ List.replicate (size - data.length) 0
def sizedS (S : FSt) (node : Int) (i : Ino) (size : Int) : Int × FSt :=
  if size - i.data.length > S.bytes - S.used then (105, S)
  else (0, setIno { S with used := S.used + (size - i.data.length) } node { i with data := resized i.data size.toNat })
def overlay (data : List Int) (at_ : Nat) (b : List Int) : List Int := data.take at_ ++ b ++ data.drop (at_ + b.length)
def dataSet (S : FSt) (node : Int) (f : List Int → List Int) : FSt := match aget node S.inodes with
  | some i => setIno S node { i with data := f i.data }
  | none => S
def writeS (S : FSt) (node at_ : Int) (b : List Int) : Int × FSt := match aget node S.inodes with
  | none => (100, S)
  | some i => if at_ < 0 ∨ at_ > 4194304 ∨ (b.length : Int) > 4194304 - at_ then (1, S) else if i.kind ≠ 2 then (106, S)
      else if 0 < b.length ∧ at_ + b.length > i.data.length then
        (if (sizedS S node i (at_ + b.length)).1 = 0 then (0, doneS (dataSet (sizedS S node i (at_ + b.length)).2 node fun d => overlay d at_.toNat b) ⟨5, 0, noName, node, 0, noName, at_, b.length⟩)
         else ((sizedS S node i (at_ + b.length)).1, S))
      else (0, doneS (if 0 < b.length then dataSet S node fun d => overlay d at_.toNat b else S) ⟨5, 0, noName, node, 0, noName, at_, b.length⟩)
def resizeS (S : FSt) (node size : Int) : Int × FSt := match aget node S.inodes with
  | none => (100, S)
  | some i => if size < 0 ∨ size > 4194304 then (1, S) else if i.kind ≠ 2 then (106, S)
      else if (sizedS S node i size).1 = 0 then (0, doneS (sizedS S node i size).2 ⟨6, 0, noName, node, 0, noName, 0, size⟩) else ((sizedS S node i size).1, S)
def readlinkS (S : FSt) (node : Int) : ByteArray × Int := match aget node S.inodes with
  | none => (noName, 100)
  | some i => if i.kind ≠ 3 then (noName, 106) else (i.target, 0)
def changeS (S : FSt) (node : Int) (m : Mt) : Int × FSt := match aget node S.inodes with
  | none => (100, S)
  | some i => if isMetaS m = true then (0, doneS (setIno S node { i with mt := m }) ⟨10, 0, noName, node, 0, noName, 0, 0⟩) else (1, S)
/-- An entry is taken away, and with the last one the inode. -/
def losesS (S : FSt) (dir : Int) (name : ByteArray) : FSt := match aget dir S.inodes with
  | none => S
  | some d => match aget name d.ents with
    | none => S
    | some n => match aget n (aset dir { d with ents := adel name d.ents } S.inodes) with
      | none => S
      | some i => if i.links - 1 = 0 then { S with used := S.used - i.data.length, inodes := adel n (aset n { i with links := i.links - 1 } (aset dir { d with ents := adel name d.ents } S.inodes)) }
          else { S with inodes := aset n { i with links := i.links - 1 } (aset dir { d with ents := adel name d.ents } S.inodes) }
def takesS (S : FSt) (op dir : Int) (name : ByteArray) : Int × FSt :=
  if (lookupS S dir name).2 = 0 then
    match aget (lookupS S dir name).1 S.inodes with
    | none => (0, S)
    | some i => if (decide (i.kind = 1) != decide (op = 8)) = true then (106, S) else if 0 < i.ents.length then (109, S)
        else (0, doneS (losesS S dir name) ⟨op, dir, name, (lookupS S dir name).1, 0, noName, 0, 0⟩)
  else ((lookupS S dir name).2, S)
def newS (nodes bytes : Int) : Option FSt :=
  if nodes < 1 ∨ nodes > 4096 ∨ bytes < 0 ∨ bytes > 4194304 then none
  else some ⟨nodes, bytes, 2, 0, [(1, ⟨1, zeroMt, [], noName, [], 1, 1⟩)], []⟩
end Go.Proofs.YtphbbcjmnlamaaaGreatV
