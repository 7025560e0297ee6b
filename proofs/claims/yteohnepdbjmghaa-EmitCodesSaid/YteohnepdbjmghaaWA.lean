import Derived.Test.YteohnepdbjmghaaLoF
import Derived.Test.YteohnepdbjmghaaSA
section
set_option linter.unusedSimpArgs false
set_option linter.unusedVariables false
namespace Go.Abs
structure Add3 where
  w : BitVec 32
  c : Bool
  v : Bool
structure Sh2 where
  w : BitVec 32
  c : Bool
end Go.Abs
end
section
set_option linter.unusedSimpArgs false
set_option linter.unusedVariables false
end
section
set_option linter.unusedSimpArgs false
set_option linter.unusedVariables false
end
section
set_option linter.unusedSimpArgs false
set_option linter.unusedVariables false
end
